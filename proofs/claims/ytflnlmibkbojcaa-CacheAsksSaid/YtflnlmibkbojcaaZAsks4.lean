/-
  Part 4 of what the claim stands on: walks through the code, plain laws.
-/
import Derived.Test.YtflnlmibkbojcaaZAsks3
namespace Go.Proofs.Ytflnlmibkbojcaa
open Go.RowKit
theorem ask_rn {w : World} {Fp : Nat → Prop} {b : Nat} {id : Int} {n : Nat} {ways : Int} {L : List Ln} (H : CacheAt w Fp b ⟨id, n, ways, L, none, none⟩) (line : Int) (hln : 0 ≤ line ∧ line < 4294967296) (pick : Int) : Calls Try.prog 13 #[.pointer (some ⟨b, 0, none⟩), .int .u32 line, .bool false, .int .i64 pick] w (Ret fun v w' => TakeR w Fp b (askF ⟨id, n, ways, L, none, none⟩ line hln false pick) v w') := by
  have c1 : ¬ ((none : Option (Int × Bool)).isSome = true ∨ mine none line = true) := by simp [mine]
  by_cases hs : stateOf L line ≠ 0
  · refine (ask_trn H line hln pick hs).mono ?_
    rintro e w' ⟨v, rfl, hv9, hn⟩
    exact ⟨v, rfl, takeR_no 231 (by unfold askF; rw [if_neg c1, if_pos ⟨hs, .inl rfl⟩]) hv9 (H.new hn) hn⟩
  · have c2 : ¬ (stateOf L line ≠ 0 ∧ (false = false ∨ writesB (stateOf L line) = true)) := fun h => hs h.1
    cases hv : vicL n ways L line pick with
    | none =>
      refine (ask_nr0n H line hln pick hs hv).mono ?_
      rintro e w' ⟨v, rfl, hv9⟩
      exact ⟨v, rfl, takeR_ok (by unfold askF; rw [if_neg c1, if_neg c2]; simp only [hv]) hv9⟩
    | some vx =>
      by_cases hx : vx.state = 1
      · refine (ask_sr0n H line hln pick hs vx hv hx).mono ?_
        rintro e w' ⟨v, rfl, hv9⟩
        exact ⟨v, rfl, takeR_ok (by unfold askF; rw [if_neg c1, if_neg c2]; simp only [hv]; simp [outF, hx]) hv9⟩
      · refine (ask_pr0n H line hln pick hs vx hv hx).mono ?_
        rintro e w' ⟨v, rfl, hv9⟩
        exact ⟨v, rfl, takeR_ok (by unfold askF; rw [if_neg c1, if_neg c2]; simp only [hv]; simp [outF, hx]) hv9⟩
theorem ask_wn {w : World} {Fp : Nat → Prop} {b : Nat} {id : Int} {n : Nat} {ways : Int} {L : List Ln} (H : CacheAt w Fp b ⟨id, n, ways, L, none, none⟩) (line : Int) (hln : 0 ≤ line ∧ line < 4294967296) (pick : Int) : Calls Try.prog 13 #[.pointer (some ⟨b, 0, none⟩), .int .u32 line, .bool true, .int .i64 pick] w (Ret fun v w' => TakeR w Fp b (askF ⟨id, n, ways, L, none, none⟩ line hln true pick) v w') := by
  have c1 : ¬ ((none : Option (Int × Bool)).isSome = true ∨ mine none line = true) := by simp [mine]
  by_cases hs : stateOf L line ≠ 0
  · cases hw : writesB (stateOf L line) with
    | true =>
      refine (ask_twn H line hln pick hs hw).mono ?_
      rintro e w' ⟨v, rfl, hv9, hn⟩
      exact ⟨v, rfl, takeR_no 231 (by unfold askF; rw [if_neg c1, if_pos ⟨hs, .inr hw⟩]) hv9 (H.new hn) hn⟩
    | false =>
      have c2 : ¬ (stateOf L line ≠ 0 ∧ (true = false ∨ writesB (stateOf L line) = true)) := by simp [hw]
      cases hv : vicL n ways L line pick with
      | none =>
        refine (ask_nw1n H line hln pick hs hw hv).mono ?_
        rintro e w' ⟨v, rfl, hv9⟩
        exact ⟨v, rfl, takeR_ok (by unfold askF; rw [if_neg c1, if_neg c2]; simp only [hv]) hv9⟩
      | some vx =>
        by_cases hx : vx.state = 1
        · refine (ask_sw1n H line hln pick hs hw vx hv hx).mono ?_
          rintro e w' ⟨v, rfl, hv9⟩
          exact ⟨v, rfl, takeR_ok (by unfold askF; rw [if_neg c1, if_neg c2]; simp only [hv]; simp [outF, hx]) hv9⟩
        · refine (ask_pw1n H line hln pick hs hw vx hv hx).mono ?_
          rintro e w' ⟨v, rfl, hv9⟩
          exact ⟨v, rfl, takeR_ok (by unfold askF; rw [if_neg c1, if_neg c2]; simp only [hv]; simp [outF, hx]) hv9⟩
  · have c2 : ¬ (stateOf L line ≠ 0 ∧ (true = false ∨ writesB (stateOf L line) = true)) := fun h => hs h.1
    cases hv : vicL n ways L line pick with
    | none =>
      refine (ask_nw0n H line hln pick hs hv).mono ?_
      rintro e w' ⟨v, rfl, hv9⟩
      exact ⟨v, rfl, takeR_ok (by unfold askF; rw [if_neg c1, if_neg c2]; simp only [hv]) hv9⟩
    | some vx =>
      by_cases hx : vx.state = 1
      · refine (ask_sw0n H line hln pick hs vx hv hx).mono ?_
        rintro e w' ⟨v, rfl, hv9⟩
        exact ⟨v, rfl, takeR_ok (by unfold askF; rw [if_neg c1, if_neg c2]; simp only [hv]; simp [outF, hx]) hv9⟩
      · refine (ask_pw0n H line hln pick hs vx hv hx).mono ?_
        rintro e w' ⟨v, rfl, hv9⟩
        exact ⟨v, rfl, takeR_ok (by unfold askF; rw [if_neg c1, if_neg c2]; simp only [hv]; simp [outF, hx]) hv9⟩
theorem ask_rs {w : World} {Fp : Nat → Prop} {b : Nat} {id : Int} {n : Nat} {ways : Int} {L : List Ln} {gx : Ln} (H : CacheAt w Fp b ⟨id, n, ways, L, none, (some gx)⟩) (line : Int) (hln : 0 ≤ line ∧ line < 4294967296) (pick : Int) (hg : ¬ gx.num = line) : Calls Try.prog 13 #[.pointer (some ⟨b, 0, none⟩), .int .u32 line, .bool false, .int .i64 pick] w (Ret fun v w' => TakeR w Fp b (askF ⟨id, n, ways, L, none, (some gx)⟩ line hln false pick) v w') := by
  have c1 : ¬ ((none : Option (Int × Bool)).isSome = true ∨ mine (some gx) line = true) := by simp [mine, hg]
  by_cases hs : stateOf L line ≠ 0
  · refine (ask_trs H line hln pick hg hs).mono ?_
    rintro e w' ⟨v, rfl, hv9, hn⟩
    exact ⟨v, rfl, takeR_no 231 (by unfold askF; rw [if_neg c1, if_pos ⟨hs, .inl rfl⟩]) hv9 (H.new hn) hn⟩
  · have c2 : ¬ (stateOf L line ≠ 0 ∧ (false = false ∨ writesB (stateOf L line) = true)) := fun h => hs h.1
    cases hv : vicL n ways L line pick with
    | none =>
      refine (ask_nr0s H line hln pick hg hs hv).mono ?_
      rintro e w' ⟨v, rfl, hv9⟩
      exact ⟨v, rfl, takeR_ok (by unfold askF; rw [if_neg c1, if_neg c2]; simp only [hv]) hv9⟩
    | some vx =>
      by_cases hx : vx.state = 1
      · refine (ask_sr0s H line hln pick hg hs vx hv hx).mono ?_
        rintro e w' ⟨v, rfl, hv9⟩
        exact ⟨v, rfl, takeR_ok (by unfold askF; rw [if_neg c1, if_neg c2]; simp only [hv]; simp [outF, hx]) hv9⟩
      · refine (ask_br0s H line hln pick hg hs vx hv hx).mono ?_
        rintro e w' ⟨v, rfl, hv9, hn⟩
        exact ⟨v, rfl, takeR_no 230 (by unfold askF; rw [if_neg c1, if_neg c2]; simp only [hv]; simp [outF, hx]) hv9 (H.new hn) hn⟩
theorem ask_ws {w : World} {Fp : Nat → Prop} {b : Nat} {id : Int} {n : Nat} {ways : Int} {L : List Ln} {gx : Ln} (H : CacheAt w Fp b ⟨id, n, ways, L, none, (some gx)⟩) (line : Int) (hln : 0 ≤ line ∧ line < 4294967296) (pick : Int) (hg : ¬ gx.num = line) : Calls Try.prog 13 #[.pointer (some ⟨b, 0, none⟩), .int .u32 line, .bool true, .int .i64 pick] w (Ret fun v w' => TakeR w Fp b (askF ⟨id, n, ways, L, none, (some gx)⟩ line hln true pick) v w') := by
  have c1 : ¬ ((none : Option (Int × Bool)).isSome = true ∨ mine (some gx) line = true) := by simp [mine, hg]
  by_cases hs : stateOf L line ≠ 0
  · cases hw : writesB (stateOf L line) with
    | true =>
      refine (ask_tws H line hln pick hg hs hw).mono ?_
      rintro e w' ⟨v, rfl, hv9, hn⟩
      exact ⟨v, rfl, takeR_no 231 (by unfold askF; rw [if_neg c1, if_pos ⟨hs, .inr hw⟩]) hv9 (H.new hn) hn⟩
    | false =>
      have c2 : ¬ (stateOf L line ≠ 0 ∧ (true = false ∨ writesB (stateOf L line) = true)) := by simp [hw]
      cases hv : vicL n ways L line pick with
      | none =>
        refine (ask_nw1s H line hln pick hg hs hw hv).mono ?_
        rintro e w' ⟨v, rfl, hv9⟩
        exact ⟨v, rfl, takeR_ok (by unfold askF; rw [if_neg c1, if_neg c2]; simp only [hv]) hv9⟩
      | some vx =>
        by_cases hx : vx.state = 1
        · refine (ask_sw1s H line hln pick hg hs hw vx hv hx).mono ?_
          rintro e w' ⟨v, rfl, hv9⟩
          exact ⟨v, rfl, takeR_ok (by unfold askF; rw [if_neg c1, if_neg c2]; simp only [hv]; simp [outF, hx]) hv9⟩
        · refine (ask_bw1s H line hln pick hg hs hw vx hv hx).mono ?_
          rintro e w' ⟨v, rfl, hv9, hn⟩
          exact ⟨v, rfl, takeR_no 230 (by unfold askF; rw [if_neg c1, if_neg c2]; simp only [hv]; simp [outF, hx]) hv9 (H.new hn) hn⟩
  · have c2 : ¬ (stateOf L line ≠ 0 ∧ (true = false ∨ writesB (stateOf L line) = true)) := fun h => hs h.1
    cases hv : vicL n ways L line pick with
    | none =>
      refine (ask_nw0s H line hln pick hg hs hv).mono ?_
      rintro e w' ⟨v, rfl, hv9⟩
      exact ⟨v, rfl, takeR_ok (by unfold askF; rw [if_neg c1, if_neg c2]; simp only [hv]) hv9⟩
    | some vx =>
      by_cases hx : vx.state = 1
      · refine (ask_sw0s H line hln pick hg hs vx hv hx).mono ?_
        rintro e w' ⟨v, rfl, hv9⟩
        exact ⟨v, rfl, takeR_ok (by unfold askF; rw [if_neg c1, if_neg c2]; simp only [hv]; simp [outF, hx]) hv9⟩
      · refine (ask_bw0s H line hln pick hg hs vx hv hx).mono ?_
        rintro e w' ⟨v, rfl, hv9, hn⟩
        exact ⟨v, rfl, takeR_no 230 (by unfold askF; rw [if_neg c1, if_neg c2]; simp only [hv]; simp [outF, hx]) hv9 (H.new hn) hn⟩
theorem ask_c {w : World} {Fp : Nat → Prop} {b : Nat} {id : Int} {n : Nat} {ways : Int} {L : List Ln} {ask : Option (Int × Bool)} {giv : Option Ln} (H : CacheAt w Fp b ⟨id, n, ways, L, ask, giv⟩) (line : Int) (hln : 0 ≤ line ∧ line < 4294967296) (pick : Int) (wr : Bool) : Calls Try.prog 13 #[.pointer (some ⟨b, 0, none⟩), .int .u32 line, .bool wr, .int .i64 pick] w (Ret fun v w' => TakeR w Fp b (askF ⟨id, n, ways, L, ask, giv⟩ line hln wr pick) v w') := by
  rcases ask with _ | ⟨al, aw⟩
  · rcases giv with _ | gx
    · cases wr
      · exact ask_rn H line hln pick
      · exact ask_wn H line hln pick
    · by_cases hg : gx.num = line
      · refine (ask_b2 H line hln pick hg wr).mono ?_
        rintro e w' ⟨v, rfl, hv9, hn⟩
        exact ⟨v, rfl, takeR_no 230 (by unfold askF; rw [if_pos (.inr (by simp [mine, hg]))]) hv9 (H.new hn) hn⟩
      · cases wr
        · exact ask_rs H line hln pick hg
        · exact ask_ws H line hln pick hg
  · refine (ask_b1 H line hln pick wr).mono ?_
    rintro e w' ⟨v, rfl, hv9, hn⟩
    exact ⟨v, rfl, takeR_no 230 (by unfold askF; rw [if_pos (.inl rfl)]) hv9 (H.new hn) hn⟩
end Go.Proofs.Ytflnlmibkbojcaa
namespace Go.Proofs.Ytflnlmibkbojcaa
open Go.RowKit
set_option maxRecDepth 100000 in
set_option maxHeartbeats 4000000 in
theorem place_no (addr : Int) (ha : 0 ≤ addr ∧ addr < 4294967296) (width : Int) (hw1 : ¬ width = 1) (hw2 : ¬ width = 2) (hw4 : ¬ width = 4) (w : World) : Calls Try.prog 54 #[.int .u32 addr, .int .i64 width] w (Ret fun v w' => v = .tuple #[.int .u32 (addr / 16), .int .i64 (addr % 16), .bool false] ∧ w' = w) := by
 refine Zen 32 Try.func54 ?_
 refine Zsr ?_
 refine Za ?_
 refine Za ?_
 refine Za ?_
 refine Znn ?_
 refine Zsr ?_
 refine Zm ?_
 refine Zv (.bool false) (fun _ fr => x_eql rfl (fr.ev rfl) rfl (decide_eq_false hw1)) ?_
 refine Zm ?_
 refine Zm ?_
 refine Zv (.bool false) (fun _ fr => x_eql rfl (fr.ev rfl) rfl (decide_eq_false hw2)) ?_
 refine Zpf ?_
 refine Zm ?_
 refine Zm ?_
 refine Zv (.bool false) (fun _ fr => x_eql rfl (fr.ev rfl) rfl (decide_eq_false hw4)) ?_
 refine Zpf ?_
 refine Zm ?_
 refine Zs ?_
 refine Zs ?_
 refine Zs ?_
 refine Zs ?_
 refine Zs ?_
 refine Zs ?_
 refine Zpf ?_
 refine Za ?_
 refine Znn ?_
 refine Zsr ?_
 refine Zm ?_
 refine Zv (.int .u32 (addr / 16)) (fun _ fr => x_quo rfl (fr.ev rfl) rfl (by decide) (u32q (by omega) (by decide))) ?_
 refine Zm ?_
 refine Zv (.int .u32 (addr % 16)) (fun _ fr => x_rem rfl (fr.ev rfl) rfl (by decide) (rem_nn (by omega))) ?_
 refine Zv _ (fun _ fr => x_convert Try.underlying32 Try.underlying3 rfl (fr.ev rfl) (i64w (r := addr % 16) rfl (by omega))) ?_
 refine Zm ?_
 refine Za ?_
 refine Za ?_
 refine Za ?_
 refine Znn ?_
 refine Zrt ?_
 refine Zre rfl [_, _, _] ⟨rfl, rfl, rfl, trivial⟩ ?_
 exact ⟨_, rfl, rfl, rfl⟩
set_option maxRecDepth 100000 in
set_option maxHeartbeats 4000000 in
theorem place_1 (addr : Int) (ha : 0 ≤ addr ∧ addr < 4294967296) (w : World) : Calls Try.prog 54 #[.int .u32 addr, .int .i64 1] w (Ret fun v w' => v = .tuple #[.int .u32 (addr / 16), .int .i64 (addr % 16), .bool (decide (addr % 1 = 0))] ∧ w' = w) := by
 refine Zen 32 Try.func54 ?_
 refine Zsr ?_
 refine Za ?_
 refine Za ?_
 refine Za ?_
 refine Znn ?_
 refine Zsr ?_
 refine Zm ?_
 refine Zv (.bool true) (fun _ fr => x_eql rfl (fr.ev rfl) rfl rfl) ?_
 refine Zm ?_
 refine Zs ?_
 refine Zs ?_
 refine Zpt ?_
 refine Zm ?_
 refine Zs ?_
 refine Zs ?_
 refine Zpt ?_
 refine Zm ?_
 refine Zm ?_
 refine Zm ?_
 refine Zv (.int .i64 1) (fun _ fr => x_max rfl (fr.ev rfl) rfl (r := 1) (by decide)) ?_
 refine Zv (.int .u32 1) (fun _ fr => x_convert Try.underlying3 Try.underlying32 rfl (fr.ev rfl) rfl) ?_
 refine Zv (.int .u32 (addr % 1)) (fun _ fr => x_rem rfl (fr.ev rfl) (fr.ev rfl) (by decide) (rem_nn (by omega))) ?_
 refine Zv _ (fun _ fr => x_eql rfl (fr.ev rfl) rfl rfl) ?_
 refine Zpt ?_
 refine Za ?_
 refine Znn ?_
 refine Zsr ?_
 refine Zm ?_
 refine Zv (.int .u32 (addr / 16)) (fun _ fr => x_quo rfl (fr.ev rfl) rfl (by decide) (u32q (by omega) (by decide))) ?_
 refine Zm ?_
 refine Zv (.int .u32 (addr % 16)) (fun _ fr => x_rem rfl (fr.ev rfl) rfl (by decide) (rem_nn (by omega))) ?_
 refine Zv _ (fun _ fr => x_convert Try.underlying32 Try.underlying3 rfl (fr.ev rfl) (i64w (r := addr % 16) rfl (by omega))) ?_
 refine Zm ?_
 refine Za ?_
 refine Za ?_
 refine Za ?_
 refine Znn ?_
 refine Zrt ?_
 refine Zre rfl [_, _, _] ⟨rfl, rfl, rfl, trivial⟩ ?_
 exact ⟨_, rfl, rfl, rfl⟩
set_option maxRecDepth 100000 in
set_option maxHeartbeats 4000000 in
theorem place_2 (addr : Int) (ha : 0 ≤ addr ∧ addr < 4294967296) (w : World) : Calls Try.prog 54 #[.int .u32 addr, .int .i64 2] w (Ret fun v w' => v = .tuple #[.int .u32 (addr / 16), .int .i64 (addr % 16), .bool (decide (addr % 2 = 0))] ∧ w' = w) := by
 refine Zen 32 Try.func54 ?_
 refine Zsr ?_
 refine Za ?_
 refine Za ?_
 refine Za ?_
 refine Znn ?_
 refine Zsr ?_
 refine Zm ?_
 refine Zv (.bool false) (fun _ fr => x_eql rfl (fr.ev rfl) rfl rfl) ?_
 refine Zm ?_
 refine Zm ?_
 refine Zv (.bool true) (fun _ fr => x_eql rfl (fr.ev rfl) rfl rfl) ?_
 refine Zpf ?_
 refine Zm ?_
 refine Zs ?_
 refine Zs ?_
 refine Zpt ?_
 refine Zm ?_
 refine Zm ?_
 refine Zm ?_
 refine Zv (.int .i64 2) (fun _ fr => x_max rfl (fr.ev rfl) rfl (r := 2) (by decide)) ?_
 refine Zv (.int .u32 2) (fun _ fr => x_convert Try.underlying3 Try.underlying32 rfl (fr.ev rfl) rfl) ?_
 refine Zv (.int .u32 (addr % 2)) (fun _ fr => x_rem rfl (fr.ev rfl) (fr.ev rfl) (by decide) (rem_nn (by omega))) ?_
 refine Zv _ (fun _ fr => x_eql rfl (fr.ev rfl) rfl rfl) ?_
 refine Zpt ?_
 refine Za ?_
 refine Znn ?_
 refine Zsr ?_
 refine Zm ?_
 refine Zv (.int .u32 (addr / 16)) (fun _ fr => x_quo rfl (fr.ev rfl) rfl (by decide) (u32q (by omega) (by decide))) ?_
 refine Zm ?_
 refine Zv (.int .u32 (addr % 16)) (fun _ fr => x_rem rfl (fr.ev rfl) rfl (by decide) (rem_nn (by omega))) ?_
 refine Zv _ (fun _ fr => x_convert Try.underlying32 Try.underlying3 rfl (fr.ev rfl) (i64w (r := addr % 16) rfl (by omega))) ?_
 refine Zm ?_
 refine Za ?_
 refine Za ?_
 refine Za ?_
 refine Znn ?_
 refine Zrt ?_
 refine Zre rfl [_, _, _] ⟨rfl, rfl, rfl, trivial⟩ ?_
 exact ⟨_, rfl, rfl, rfl⟩
set_option maxRecDepth 100000 in
set_option maxHeartbeats 4000000 in
theorem place_4 (addr : Int) (ha : 0 ≤ addr ∧ addr < 4294967296) (w : World) : Calls Try.prog 54 #[.int .u32 addr, .int .i64 4] w (Ret fun v w' => v = .tuple #[.int .u32 (addr / 16), .int .i64 (addr % 16), .bool (decide (addr % 4 = 0))] ∧ w' = w) := by
 refine Zen 32 Try.func54 ?_
 refine Zsr ?_
 refine Za ?_
 refine Za ?_
 refine Za ?_
 refine Znn ?_
 refine Zsr ?_
 refine Zm ?_
 refine Zv (.bool false) (fun _ fr => x_eql rfl (fr.ev rfl) rfl rfl) ?_
 refine Zm ?_
 refine Zm ?_
 refine Zv (.bool false) (fun _ fr => x_eql rfl (fr.ev rfl) rfl rfl) ?_
 refine Zpf ?_
 refine Zm ?_
 refine Zm ?_
 refine Zv (.bool true) (fun _ fr => x_eql rfl (fr.ev rfl) rfl rfl) ?_
 refine Zpf ?_
 refine Zm ?_
 refine Zm ?_
 refine Zm ?_
 refine Zv (.int .i64 4) (fun _ fr => x_max rfl (fr.ev rfl) rfl (r := 4) (by decide)) ?_
 refine Zv (.int .u32 4) (fun _ fr => x_convert Try.underlying3 Try.underlying32 rfl (fr.ev rfl) rfl) ?_
 refine Zv (.int .u32 (addr % 4)) (fun _ fr => x_rem rfl (fr.ev rfl) (fr.ev rfl) (by decide) (rem_nn (by omega))) ?_
 refine Zv _ (fun _ fr => x_eql rfl (fr.ev rfl) rfl rfl) ?_
 refine Zpt ?_
 refine Za ?_
 refine Znn ?_
 refine Zsr ?_
 refine Zm ?_
 refine Zv (.int .u32 (addr / 16)) (fun _ fr => x_quo rfl (fr.ev rfl) rfl (by decide) (u32q (by omega) (by decide))) ?_
 refine Zm ?_
 refine Zv (.int .u32 (addr % 16)) (fun _ fr => x_rem rfl (fr.ev rfl) rfl (by decide) (rem_nn (by omega))) ?_
 refine Zv _ (fun _ fr => x_convert Try.underlying32 Try.underlying3 rfl (fr.ev rfl) (i64w (r := addr % 16) rfl (by omega))) ?_
 refine Zm ?_
 refine Za ?_
 refine Za ?_
 refine Za ?_
 refine Znn ?_
 refine Zrt ?_
 refine Zre rfl [_, _, _] ⟨rfl, rfl, rfl, trivial⟩ ?_
 exact ⟨_, rfl, rfl, rfl⟩
end Go.Proofs.Ytflnlmibkbojcaa
namespace Go.Proofs.Ytflnlmibkbojcaa
open Go.RowKit
def rdI (bs : List Int) (p : Nat) : Nat → Int
  | 0 => 0
  | i + 1 => rdI bs p i + bs.getD (p + i) 0 * 256 ^ i
def wrL (bs : List Int) (p : Nat) (v : Int) : Nat → List Int
  | 0 => bs
  | i + 1 => (wrL bs p v i).set (p + i) (v / 256 ^ i % 256)
theorem getD_bd {l : List Int} (h : ∀ a ∈ l, 0 ≤ a ∧ a < 256) (j : Nat) : 0 ≤ l.getD j 0 ∧ l.getD j 0 < 256 := by
  by_cases hj : j < l.length
  · have e : l.getD j 0 = l[j] := by simp [List.getD, hj]
    rw [e]
    exact h _ (List.getElem_mem hj)
  · have e : l.getD j 0 = 0 := by simp [List.getD, List.getElem?_eq_none (show l.length ≤ j by omega)]
    rw [e]
    omega
theorem rdI_bd {l : List Int} (h : ∀ a ∈ l, 0 ≤ a ∧ a < 256) (p : Nat) : ∀ i, 0 ≤ rdI l p i ∧ rdI l p i < 256 ^ i
  | 0 => by simp [rdI]
  | i + 1 => by
    have h1 := rdI_bd h p i
    have h2 := getD_bd h (p + i)
    have h3 : (0 : Int) < 256 ^ i := Int.pow_pos (by decide)
    simp only [rdI]
    rw [Int.pow_succ]
    have h4 : 0 ≤ l.getD (p + i) 0 * 256 ^ i := Int.mul_nonneg h2.1 (by omega)
    have h5 : l.getD (p + i) 0 * 256 ^ i ≤ 255 * 256 ^ i := Int.mul_le_mul_of_nonneg_right (by omega) (by omega)
    omega
theorem wrL_len (bs : List Int) (p : Nat) (v : Int) : ∀ i, (wrL bs p v i).length = bs.length
  | 0 => rfl
  | i + 1 => by rw [wrL, List.length_set, wrL_len]
theorem wrL_bd {bs : List Int} (h : ∀ a ∈ bs, 0 ≤ a ∧ a < 256) (p : Nat) (v : Int) : ∀ i, ∀ a ∈ wrL bs p v i, 0 ≤ a ∧ a < 256
  | 0 => h
  | i + 1 => fun a ha => by
    rcases List.mem_or_eq_of_mem_set ha with ha | rfl
    · exact wrL_bd h p v i a ha
    · have h1 := Int.emod_nonneg (v / 256 ^ i) (show (256 : Int) ≠ 0 by decide)
      have h2 := Int.emod_lt_of_pos (v / 256 ^ i) (show (0 : Int) < 256 by decide)
      omega
def wrB (b : B16) (p : Nat) (v : Int) (i : Nat) : B16 := ⟨wrL b.1 p v i, by rw [wrL_len]; exact b.2.1, wrL_bd b.2.2 p v i⟩
theorem or_hi {m q : Nat} {j : Nat} (h : m < 2 ^ j) : m ||| q * 2 ^ j = m + q * 2 ^ j := by
  rw [Nat.or_comm, ← Nat.shiftLeft_eq, ← Nat.shiftLeft_add_eq_or_of_lt h, Nat.add_comm]
theorem rd_or (b : B16) (p j : Nat) (hj : j < 4) : IntKind.u32.wrap (BitVec.ofInt IntKind.u32.bits (rdI b.1 p j) ||| BitVec.ofInt IntKind.u32.bits (b.1.getD (p + j) 0 * 256 ^ j)).toNat = rdI b.1 p (j + 1) := by
  have h1 := rdI_bd b.2.2 p j
  have h2 := getD_bd b.2.2 (p + j)
  have h3 := rdI_bd b.2.2 p (j + 1)
  have e0 : rdI b.1 p (j + 1) = rdI b.1 p j + b.1.getD (p + j) 0 * 256 ^ j := rfl
  rw [e0] at h3 ⊢
  obtain ⟨m, hm⟩ := Int.eq_ofNat_of_zero_le h1.1
  obtain ⟨q, hq⟩ := Int.eq_ofNat_of_zero_le h2.1
  rw [hm] at h1 h3 ⊢
  rw [hq] at h2 h3 ⊢
  have e1 : ((m : Nat) : Int) + ((q : Nat) : Int) * 256 ^ j = ((m + q * 2 ^ (8 * j) : Nat) : Int) := by
    push_cast
    rw [Int.pow_mul]
    rfl
  have e2 : ((q : Nat) : Int) * 256 ^ j = ((q * 2 ^ (8 * j) : Nat) : Int) := by
    push_cast
    rw [Int.pow_mul]
    rfl
  have hb : (256 : Int) ^ (j + 1) ≤ 4294967296 := by
    rcases (show j = 0 ∨ j = 1 ∨ j = 2 ∨ j = 3 by omega) with rfl | rfl | rfl | rfl <;> decide
  have hm8 : m < 2 ^ (8 * j) := by
    have : ((m : Nat) : Int) < ((2 ^ (8 * j) : Nat) : Int) := by
      push_cast
      rw [Int.pow_mul]
      exact h1.2
    omega
  rw [e1] at h3 ⊢
  rw [e2]
  show IntKind.u32.wrap ((BitVec.ofInt 32 ((m : Nat) : Int)) ||| (BitVec.ofInt 32 ((q * 2 ^ (8 * j) : Nat) : Int))).toNat = _
  rw [BitVec.ofInt_natCast, BitVec.ofInt_natCast, BitVec.toNat_or, BitVec.toNat_ofNat, BitVec.toNat_ofNat, Nat.mod_eq_of_lt (show m < 2 ^ 32 by omega), Nat.mod_eq_of_lt (show q * 2 ^ (8 * j) < 2 ^ 32 by omega), or_hi hm8]
  exact u32w rfl (by omega)
theorem sh_up {m : Int} {j : Nat} (hm : 0 ≤ m ∧ m < 256) (hj : j < 4) : IntKind.u32.wrap (m * 2 ^ min (((8 * j : Nat) : Int)).toNat IntKind.u32.bits) = m * 256 ^ j := by
  rcases (show j = 0 ∨ j = 1 ∨ j = 2 ∨ j = 3 by omega) with rfl | rfl | rfl | rfl
  all_goals
    simp [IntKind.bits]
    exact u32w rfl (by omega)
theorem sh_dn {m : Int} {j : Nat} (hj : j < 4) : m.fdiv (2 ^ min (((8 * j : Nat) : Int)).toNat IntKind.u32.bits) = m / 256 ^ j := by
  rcases (show j = 0 ∨ j = 1 ∨ j = 2 ∨ j = 3 by omega) with rfl | rfl | rfl | rfl
  all_goals
    simp [IntKind.bits]
    try exact Int.fdiv_eq_ediv_of_nonneg _ (by decide)
theorem ln_cell (x : Ln) {j : Nat} (hj : j < 16) : (lnE.arr x)[2 + j]? = some (.int .u8 (x.bs.1.getD j 0)) := by
  have hl := x.bs.2.1
  simp only [Enc.arr, List.getElem?_toArray]
  show (x.cells)[2 + j]? = _
  rw [Nat.add_comm]
  simp [Ln.cells, List.getD, List.getElem?_eq_getElem (show j < x.bs.1.length by omega)]
theorem ln_setb (x : Ln) (p i : Nat) (v : Int) (hj : p + i < 16) : (lnE.arr { x with bs := wrB x.bs p v i }).setIfInBounds (2 + (p + i)) (.int .u8 (v / 256 ^ i % 256)) = lnE.arr { x with bs := wrB x.bs p v (i + 1) } := by
  apply Array.toList_inj.1
  rw [Array.toList_setIfInBounds, Enc.toList, Enc.toList]
  show (Ln.cells _).set (2 + (p + i)) _ = Ln.cells _
  rw [Nat.add_comm 2]
  simp [Ln.cells, wrB, wrL, List.map_set]
def rightA (addr width : Int) : Bool := (decide (width = 1) || decide (width = 2) || decide (width = 4)) && decide (addr % width = 0)
theorem rightA_yes {addr width : Int} (ha : 0 ≤ addr) (h : rightA addr width = true) : 1 ≤ width ∧ width ≤ 4 ∧ addr % 16 + width ≤ 16 := by
  simp [rightA] at h
  obtain ⟨(h1 | h1) | h1, h2⟩ := h <;> subst h1 <;> omega
theorem place_c (addr width : Int) (ha : 0 ≤ addr ∧ addr < 4294967296) (w : World) : Calls Try.prog 54 #[.int .u32 addr, .int .i64 width] w (Ret fun v w' => v = .tuple #[.int .u32 (addr / 16), .int .i64 (addr % 16), .bool (rightA addr width)] ∧ w' = w) := by
  by_cases h1 : width = 1
  · subst h1
    refine (place_1 addr ha w).mono ?_
    rintro e w' ⟨v, rfl, rfl, rfl⟩
    exact ⟨_, rfl, by simp [rightA], rfl⟩
  by_cases h2 : width = 2
  · subst h2
    refine (place_2 addr ha w).mono ?_
    rintro e w' ⟨v, rfl, rfl, rfl⟩
    exact ⟨_, rfl, by simp [rightA], rfl⟩
  by_cases h4 : width = 4
  · subst h4
    refine (place_4 addr ha w).mono ?_
    rintro e w' ⟨v, rfl, rfl, rfl⟩
    exact ⟨_, rfl, by simp [rightA], rfl⟩
  refine (place_no addr ha width h1 h2 h4 w).mono ?_
  rintro e w' ⟨v, rfl, rfl, rfl⟩
  exact ⟨_, rfl, by simp [rightA, h1, h2, h4], rfl⟩
def readF (L : List Ln) (addr width : Int) : Int × Int :=
  if rightA addr width = false then (0, 2) else match getN L (addr / 16) with
    | none => (0, 232)
    | some x => (rdI x.bs.1 (addr % 16).toNat width.toNat, 0)
def wrLn (x : Ln) (addr width v : Int) : Ln := { x with bs := wrB x.bs (addr % 16).toNat v width.toNat, state := 3 }
def writeF (d : CD) (addr width v : Int) : CD × Int :=
  if rightA addr width = false then (d, 2) else if writesB (stateOf d.L (addr / 16)) = false then (d, 232)
  else ({ d with L := putL d.n d.ways d.L (wrLn ((getN d.L (addr / 16)).getD ln0) addr width v) }, 0)
theorem get_num {L : List Ln} {num : Int} {x : Ln} (h : getN L num = some x) : x.num = num := by
  have := List.find?_some h
  simpa [isNum] using this
theorem w_there {L : List Ln} {num : Int} (h : writesB ((getN L num).getD ln0).state = true) : ∃ y, getN L num = some y ∧ (getN L num).getD ln0 = y := by
  cases hg : getN L num with
  | none => rw [hg] at h; exact absurd h (by decide)
  | some y => exact ⟨y, rfl, rfl⟩
theorem put_there {n : Nat} {ways : Int} {L : List Ln} {num : Int} (h : writesB ((getN L num).getD ln0).state = true) (x : Ln) (h1 : x.num = ((getN L num).getD ln0).num) (h2 : x.state = 3) : putE n ways L x = 0 := by
  obtain ⟨y, hy, hd⟩ := w_there h
  have hn : x.num = num := by rw [h1, hd]; exact get_num hy
  have ho : ¬ okS x = false := by simp [okS, h2]
  unfold putE
  rw [if_neg ho, if_neg (fun hh => by rw [hn, hy] at hh; cases hh.1)]
def WriteR (w : World) (Fp : Nat → Prop) (b : Nat) (r : CD × Int) (v : Value) (w' : World) : Prop :=
  v = .int .i64 r.2 ∧ ∃ Fp', CacheAt w' Fp' b r.1 ∧ Only Fp w w' ∧ ∀ g, Fp' g → Fp g ∨ w.heap.size ≤ g
theorem wr_no {w w' : World} {Fp : Nat → Prop} {b : Nat} {r : CD × Int} {d : CD} {e : Int} (hr : r = (d, e)) (h : CacheAt w Fp b d) (hn : New w w') : WriteR w Fp b r (.int .i64 e) w' := by
  subst hr
  exact ⟨rfl, Fp, h.new hn, hn.mono fun _ _ h => h.elim, fun g hg => .inl hg⟩
theorem wr_ok {w w' : World} {Fp : Nat → Prop} {b : Nat} {r : CD × Int} {d : CD} {e : Int} (hr : r = (d, e)) (Fp' : Nat → Prop) (h : CacheAt w' Fp' b d) (hO : Only Fp w w') (hi : ∀ g, Fp' g → Fp g ∨ w.heap.size ≤ g) : WriteR w Fp b r (.int .i64 e) w' := by
  subst hr
  exact ⟨rfl, Fp', h, hO, hi⟩
def HasRoom (n : Nat) (ways : Int) (L : List Ln) (num : Int) : Prop := getN L num = none → ((ofs n L (si n num)).length : Int) < ways
def RoomOk (d : CD) : Prop := ∀ l wr, d.ask = some (l, wr) → HasRoom d.n d.ways d.L l
end Go.Proofs.Ytflnlmibkbojcaa
namespace Go.Proofs.Ytflnlmibkbojcaa
open Go.RowKit
set_option maxRecDepth 100000 in
set_option maxHeartbeats 4000000 in
theorem read_c (addr : Int) (ha : 0 ≤ addr ∧ addr < 4294967296) (width : Int) {w : World} {b lb : Nat} {id : Int} {pa pg : Value} {FpL : Nat → Prop} {n : Nat} {ways : Int} {L : List Ln} (hB : Blk w b 83 #[.int .i64 id, .pointer (some ⟨lb, 0, none⟩), pa, pg]) (hL : LinesAt w FpL lb n ways L) (ap_FpL_b : ¬ FpL b)  : Calls Try.prog 17 #[.pointer (some ⟨b, 0, none⟩), .int .u32 addr, .int .i64 width] w (Ret fun v w' => v = .tuple #[.int .u32 (readF L addr width).1, .int .i64 (readF L addr width).2] ∧ New w w') := by
 obtain ⟨hn1, hn2, hw1, hw2⟩ := hL.bd
 have hF := Only.refl (fun _ => False) w
 refine Zen 55 Try.func17 ?_
 refine Zsr ?_
 refine Za ?_
 refine Za ?_
 refine Znn ?_
 refine Zsq ?_
 refine Zsr ?_
 refine Zm ?_
 refine Zk cf43 (cnone_c hB) ?_
 rintro v w9 ⟨rfl, hw9⟩
 obtain rfl := hw9.symm
 refine Znn ?_
 refine Zcf ?_
 refine Zsk ?_
 refine Znx ?_
 refine Zsr ?_
 refine Zm ?_
 refine Zm ?_
 refine Zk (args := #[.int .u32 addr, .int .i64 width]) cf54 (place_c addr width (by omega) _) ?_
 rintro v w9 ⟨rfl, hw9⟩
 obtain rfl := hw9.symm
 refine Zm ?_
 refine Zt ?_
 refine Zt ?_
 refine Zt ?_
 refine Za ?_
 refine Za ?_
 refine Za ?_
 refine Znn ?_
 refine Zsq ?_
 refine Zsr ?_
 refine Zm ?_
 refine Zv _ (fun _ fr => x_not rfl (fr.ev rfl) rfl) ?_
 refine Znn ?_
 refine Zcd (fun hc5 => ?_) (fun hc5 => ?_)
 ·refine Zsr ?_
  refine Za ?_
  refine Za ?_
  refine Znn ?_
  refine Zrt ?_
  refine Zr1 ?_
  refine Zre rfl [_, _] ⟨rfl, rfl, trivial⟩ ?_
  have hq : readF L addr width = (0, 2) := by unfold readF; rw [if_pos (by simpa using hc5)]
  rw [hq]
  exact ⟨_, rfl, rfl, hF⟩
 ·refine Zsk ?_
  refine Znx ?_
  refine Zsq ?_
  have hrt : rightA addr width = true := by simpa using hc5
  have hrd := rightA_yes (by omega) hrt
  refine Zrg ?_
  refine Zm ?_
  refine Zn ?_
  refine Zf fo83_1 ?_
  refine Zd pl79 (hB.cell 1 rfl) ?_
  refine Zm ?_
  refine Zk (args := #[.pointer (some ⟨lb, 0, none⟩), .int .u32 (addr / 16)]) cf55 (find_c (addr / 16) (by omega) hL) ?_
  rintro v w6 ⟨rfl, hN7⟩
  refine Zm ?_
  refine Zt ?_
  refine Zt ?_
  refine Zna (z := zv1) (cs := lnE.arr ln0) (by kernel_rfl) fun b8 w9 hN10 B11 hb12 => ?_
  replace hB := hB.new hN7
  have ne_b_b8 : NE b b8 := NE.mk (Nat.lt_of_lt_of_le hB.lt hb12)
  replace hL := hL.new hN7
  have ap_FpL_b8 : ¬ FpL b8 := hL.apart hb12
  replace hF := hF.trNew hN7
  have g_b8 := Nat.le_trans hF.size hb12
  refine ZsS sz39 (lnE.all _) B11 (lnE.size _) (lnE.size _) fun w13 hO14 hBq => ?_
  replace B11 := hBq
  clear hBq
  refine Za ?_
  refine Znn ?_
  refine Zsq ?_
  refine Zsr ?_
  refine Zm ?_
  refine Zv _ (fun _ fr => x_not rfl (fr.ev rfl) rfl) ?_
  refine Znn ?_
  refine Zcd (fun hc15 => ?_) (fun hc15 => ?_)
  ·refine Zsr ?_
   refine Za ?_
   refine Za ?_
   refine Znn ?_
   refine Zrt ?_
   refine Zr1 ?_
   refine Zre rfl [_, _] ⟨rfl, rfl, trivial⟩ ?_
   have hnr : ¬ rightA addr width = false := by rw [hrt]; decide
   have hq : readF L addr width = (0, 232) := by unfold readF; rw [if_neg hnr]; cases hg : getN L (addr / 16) with
   | none => rfl
   | some x => simp [hg] at hc15
   rw [hq]
   replace hF := (hF.trNew hN10).loc hO14 (.inr g_b8)
   exact ⟨_, rfl, rfl, hF⟩
  ·refine Zsk ?_
   refine Znx ?_
   refine Zsr ?_
   refine Za ?_
   refine Znn ?_
   refine Zsq ?_
   refine Zsr ?_
   refine Zm ?_
   refine Zm ?_
   refine Znn ?_
   refine Zbl ?_
   intro a fr
   replace hB := (hB.new hN10).only hO14 ne_b_b8
   replace hL := (hL.new hN10).only hO14 (ne1P ap_FpL_b8)
   replace hF := (hF.trNew hN10).loc hO14 (.inr g_b8)
   refine fx_loop (fun nM a wL => ∃ j : Nat, nM = (width - j).toNat ∧ Fr (55, []) [(0, .pointer (some ⟨b, 0, none⟩)), (1, .int .u32 addr), (2, .int .i64 width), (8, .int .u32 (addr / 16)), (9, .int .i64 (addr % 16)), (11, .pointer (some ⟨b8, 0, none⟩)), (37, .int .i64 width), (13, .int .u32 (rdI ((getN L (addr / 16)).getD ln0).bs.1 (addr % 16).toNat j)), (38, .int .i64 ((j : Nat) : Int))] a ∧ Only (fun _ => False) w wL ∧ Blk wL b 83 #[.int .i64 id, .pointer (some ⟨lb, 0, none⟩), pa, pg] ∧ LinesAt wL FpL lb n ways L ∧ Blk wL b8 39 (lnE.arr ((getN L (addr / 16)).getD ln0)) ∧ ((j : Nat) : Int) ≤ width) (n0 := _) ⟨0, rfl, fr.sub ⟨rfl, rfl, rfl, rfl, rfl, rfl, rfl, rfl, rfl, trivial⟩, hF, hB, hL, B11, by omega⟩ ?_
   clear fr a
   rintro n17 a w16 ⟨j, rfl, fr, hF, hB, hL, B11, hj⟩
   revert a
   refine Zsr ?_
   refine Zv _ (fun _ fr => x_lss rfl (fr.ev rfl) (fr.ev rfl) rfl) ?_
   refine Znn ?_
   refine Zsq ?_
   refine Zcd (fun hc18 => ?_) (fun hc18 => ?_)
   ·have hc18 := of_decide_eq_true hc18
    refine Zsk ?_
    refine Znx ?_
    refine Zsq ?_
    refine Zbl ?_
    refine Zsr ?_
    refine Zm ?_
    refine Za ?_
    refine Znn ?_
    refine Zrg ?_
    refine Zm ?_
    refine Zm ?_
    refine Zm ?_
    refine Zv _ (fun _ fr => x_add rfl (fr.ev rfl) (fr.ev rfl) (i64w (r := ((((addr % 16).toNat) + j : Nat) : Int)) (by omega) (by omega))) ?_
    refine Zf fo39_2 ?_
    refine Zv (.pointer (some ⟨b8, 2 + (((addr % 16).toNat) + j), none⟩)) (fun _ fr => x_indexArr Try.underlying22 sz16 rfl (fr.ev rfl) (fr.ev rfl) (by omega) (show 2 + (((addr % 16).toNat) + j) * 1 = 2 + (((addr % 16).toNat) + j) by omega)) ?_
    refine Zd (v := .int .u8 (((getN L (addr / 16)).getD ln0).bs.1.getD (((addr % 16).toNat) + j) 0)) pl5 (B11.cell _ (ln_cell ((getN L (addr / 16)).getD ln0) (j := ((addr % 16).toNat) + j) (by omega))) ?_
    refine Zv (.int .u32 (((getN L (addr / 16)).getD ln0).bs.1.getD (((addr % 16).toNat) + j) 0)) (fun _ fr => x_convert Try.underlying5 Try.underlying32 rfl (fr.ev rfl) (u32w (r := ((getN L (addr / 16)).getD ln0).bs.1.getD (((addr % 16).toNat) + j) 0) rfl (by have := getD_bd ((getN L (addr / 16)).getD ln0).bs.2.2 (((addr % 16).toNat) + j); omega))) ?_
    refine Zm ?_
    refine Zv _ (fun _ fr => x_mul rfl rfl (fr.ev rfl) (i64w (r := ((8 * j : Nat) : Int)) (by omega) (by omega))) ?_
    refine Zv (.int .u32 (((getN L (addr / 16)).getD ln0).bs.1.getD (((addr % 16).toNat) + j) 0 * 256 ^ j)) (fun _ fr => x_shl rfl (fr.ev rfl) (fr.ev rfl) (by omega) (sh_up (getD_bd ((getN L (addr / 16)).getD ln0).bs.2.2 (((addr % 16).toNat) + j)) (by omega))) ?_
    refine Zv (.int .u32 (rdI ((getN L (addr / 16)).getD ln0).bs.1 (addr % 16).toNat (j + 1))) (fun _ fr => x_or rfl (fr.ev rfl) (fr.ev rfl) (rd_or ((getN L (addr / 16)).getD ln0).bs (addr % 16).toNat j (by omega))) ?_
    refine Za ?_
    refine Znl ?_
    refine Zb ?_
    refine Znx ?_
    refine Zrg ?_
    refine Zv _ (fun _ fr => x_add rfl (fr.ev rfl) rfl (i64w (r := ((j + 1 : Nat) : Int)) (by omega) (by omega))) ?_
    refine Zm ?_
    intro a fr
    refine wpList_nil ?_
    refine fx_next ?_
    exact ⟨_, by omega, (j + 1), rfl, fr.sub ⟨rfl, rfl, rfl, rfl, rfl, rfl, rfl, rfl, rfl, trivial⟩, hF, hB, hL, B11, by omega⟩
   ·have hc18 := of_decide_eq_false hc18
    refine Zex ?_
    refine Zxt ?_
    refine Zxt ?_
    refine Zxx ?_
    refine Znx ?_
    refine Zsr ?_
    refine Zm ?_
    refine Za ?_
    refine Za ?_
    refine Znn ?_
    refine Zrt ?_
    refine Zre rfl [_, _] ⟨rfl, rfl, trivial⟩ ?_
    have hnr : ¬ rightA addr width = false := by rw [hrt]; decide
    obtain rfl : j = width.toNat := by omega
    have hq : readF L addr width = (rdI ((getN L (addr / 16)).getD ln0).bs.1 (addr % 16).toNat width.toNat, 0) := by unfold readF; rw [if_neg hnr]; cases hg : getN L (addr / 16) with
    | none => simp [hg] at hc15
    | some x => rfl
    rw [hq]
    exact ⟨_, rfl, rfl, hF⟩
set_option maxRecDepth 100000 in
set_option maxHeartbeats 4000000 in
theorem write_a (addr : Int) (ha : 0 ≤ addr ∧ addr < 4294967296) (width : Int) {w : World} {Fp : Nat → Prop} {b : Nat} {id : Int} {n : Nat} {ways : Int} {L : List Ln} {ask : Option (Int × Bool)} {giv : Option Ln} (H : CacheAt w Fp b ⟨id, n, ways, L, ask, giv⟩) (value : Int) (hrt : rightA addr width = false)  : Calls Try.prog 15 #[.pointer (some ⟨b, 0, none⟩), .int .u32 addr, .int .i64 width, .int .u32 value] w (Ret fun v w' => WriteR w Fp b (writeF ⟨id, n, ways, L, ask, giv⟩ addr width value) v w') := by
 have H9 := H
 obtain ⟨lb, FpL, pa, pg, FpA, FpG, hB, hL, hA, hG, hP⟩ := H
 dsimp only at hB hL hA hG
 obtain ⟨hn1, hn2, hw1, hw2⟩ := hL.bd
 have hF := Only.refl (fun _ => False) w
 refine Zen 61 Try.func15 ?_
 refine Zsr ?_
 refine Za ?_
 refine Znn ?_
 refine Zsq ?_
 refine Zsr ?_
 refine Zm ?_
 refine Zk cf43 (cnone_c hB) ?_
 rintro v w9 ⟨rfl, hw9⟩
 obtain rfl := hw9.symm
 refine Znn ?_
 refine Zcf ?_
 refine Zsk ?_
 refine Znx ?_
 refine Zsr ?_
 refine Zm ?_
 refine Zm ?_
 refine Zk (args := #[.int .u32 addr, .int .i64 width]) cf54 (place_c addr width (by omega) _) ?_
 rintro v w9 ⟨rfl, hw9⟩
 obtain rfl := hw9.symm
 refine Zm ?_
 refine Zt ?_
 refine Zt ?_
 refine Zt ?_
 refine Za ?_
 refine Za ?_
 refine Za ?_
 refine Znn ?_
 refine Zsq ?_
 refine Zsq ?_
 intro a fr
 rw [hrt] at fr
 revert a
 refine Zrg ?_
 refine Zm ?_
 refine Zv (.bool true) (fun _ fr => x_not rfl (fr.ev rfl) rfl) ?_
 refine Znn ?_
 refine Zct ?_
 refine Zsr ?_
 refine Za ?_
 refine Znn ?_
 refine Zrt ?_
 refine Zr1 ?_
 refine Zre rfl [_] ⟨rfl, trivial⟩ ?_
 exact ⟨_, rfl, wr_no (by unfold writeF; rw [if_pos hrt]) H9 hF⟩
set_option maxRecDepth 100000 in
set_option maxHeartbeats 4000000 in
theorem write_m (addr : Int) (ha : 0 ≤ addr ∧ addr < 4294967296) (width : Int) {w : World} {Fp : Nat → Prop} {b : Nat} {id : Int} {n : Nat} {ways : Int} {L : List Ln} {ask : Option (Int × Bool)} {giv : Option Ln} (H : CacheAt w Fp b ⟨id, n, ways, L, ask, giv⟩) (value : Int) (hrt : rightA addr width = true) (hwt : writesB (stateOf L (addr / 16)) = false)  : Calls Try.prog 15 #[.pointer (some ⟨b, 0, none⟩), .int .u32 addr, .int .i64 width, .int .u32 value] w (Ret fun v w' => WriteR w Fp b (writeF ⟨id, n, ways, L, ask, giv⟩ addr width value) v w') := by
 have hwx : writesB (((getN L (addr / 16)).getD ln0).state) = false := hwt
 have H9 := H
 obtain ⟨lb, FpL, pa, pg, FpA, FpG, hB, hL, hA, hG, hP⟩ := H
 dsimp only at hB hL hA hG
 obtain ⟨hn1, hn2, hw1, hw2⟩ := hL.bd
 have hF := Only.refl (fun _ => False) w
 refine Zen 61 Try.func15 ?_
 refine Zsr ?_
 refine Za ?_
 refine Znn ?_
 refine Zsq ?_
 refine Zsr ?_
 refine Zm ?_
 refine Zk cf43 (cnone_c hB) ?_
 rintro v w9 ⟨rfl, hw9⟩
 obtain rfl := hw9.symm
 refine Znn ?_
 refine Zcf ?_
 refine Zsk ?_
 refine Znx ?_
 refine Zsr ?_
 refine Zm ?_
 refine Zm ?_
 refine Zk (args := #[.int .u32 addr, .int .i64 width]) cf54 (place_c addr width (by omega) _) ?_
 rintro v w9 ⟨rfl, hw9⟩
 obtain rfl := hw9.symm
 refine Zm ?_
 refine Zt ?_
 refine Zt ?_
 refine Zt ?_
 refine Za ?_
 refine Za ?_
 refine Za ?_
 refine Znn ?_
 refine Zsq ?_
 refine Zsq ?_
 intro a fr
 rw [hrt] at fr
 revert a
 refine Zrg ?_
 refine Zm ?_
 refine Zv (.bool false) (fun _ fr => x_not rfl (fr.ev rfl) rfl) ?_
 refine Znn ?_
 refine Zcf ?_
 refine Zsk ?_
 refine Znx ?_
 refine Zsq ?_
 have hrd := rightA_yes (by omega) hrt
 refine Zrg ?_
 refine Zm ?_
 refine Zn ?_
 refine Zf fo83_1 ?_
 refine Zd pl79 (hB.cell 1 rfl) ?_
 refine Zm ?_
 refine Zk (args := #[.pointer (some ⟨lb, 0, none⟩), .int .u32 (addr / 16)]) cf55 (find_c (addr / 16) (by omega) hL) ?_
 rintro v w5 ⟨rfl, hN6⟩
 refine Zm ?_
 refine Zt ?_
 refine Zt ?_
 refine Zna (z := zv1) (cs := lnE.arr ln0) (by kernel_rfl) fun b7 w8 hN9 B10 hb11 => ?_
 replace hF := hF.trNew hN6
 have g_b7 := Nat.le_trans hF.size hb11
 refine ZsS sz39 (lnE.all _) B10 (lnE.size _) (lnE.size _) fun w12 hO13 hBq => ?_
 replace B10 := hBq
 clear hBq
 refine Za ?_
 refine Znn ?_
 refine Zsq ?_
 refine Zsr ?_
 refine Zf fo39_1 ?_
 refine Zd (v := .int .i64 (((getN L (addr / 16)).getD ln0).state)) pl36 (B10.cell 1 rfl) ?_
 refine Zk cf44 (writes_c (((getN L (addr / 16)).getD ln0).state) _) ?_
 rintro v _ ⟨rfl, hw9⟩
 obtain rfl := hw9.symm
 intro a fr
 rw [hwx] at fr
 revert a
 refine Zv (.bool true) (fun _ fr => x_not rfl (fr.ev rfl) rfl) ?_
 refine Znn ?_
 refine Zct ?_
 refine Zsr ?_
 refine Za ?_
 refine Znn ?_
 refine Zrt ?_
 refine Zr1 ?_
 refine Zre rfl [_] ⟨rfl, trivial⟩ ?_
 replace hF := (hF.trNew hN9).loc hO13 (.inr g_b7)
 exact ⟨_, rfl, wr_no (by unfold writeF; rw [if_neg (by rw [hrt]; decide), if_pos hwt]) H9 hF⟩
set_option maxRecDepth 100000 in
set_option maxHeartbeats 4000000 in
theorem write_y (addr : Int) (ha : 0 ≤ addr ∧ addr < 4294967296) (width : Int) {w : World} {Fp : Nat → Prop} {b : Nat} {id : Int} {n : Nat} {ways : Int} {L : List Ln} {ask : Option (Int × Bool)} {giv : Option Ln} (H : CacheAt w Fp b ⟨id, n, ways, L, ask, giv⟩) (value : Int) (hrt : rightA addr width = true) (hwt : writesB (stateOf L (addr / 16)) = true)  : Calls Try.prog 15 #[.pointer (some ⟨b, 0, none⟩), .int .u32 addr, .int .i64 width, .int .u32 value] w (Ret fun v w' => WriteR w Fp b (writeF ⟨id, n, ways, L, ask, giv⟩ addr width value) v w') := by
 have hwx : writesB (((getN L (addr / 16)).getD ln0).state) = true := hwt
 have H9 := H
 obtain ⟨lb, FpL, pa, pg, FpA, FpG, hB, hL, hA, hG, hP⟩ := H
 dsimp only at hB hL hA hG
 have ap_FpL_b := hP.lb
 have ap_FpA_b := hP.ab
 have ap_FpG_b := hP.gb
 have ap2_FpL_FpA := hP.la
 have ap2_FpL_FpG := hP.lg
 have ap2_FpA_FpG := hP.ag
 obtain ⟨hn1, hn2, hw1, hw2⟩ := hL.bd
 have gA_FpL : ∀ g, FpL g → Fp g ∨ w.heap.size ≤ g := fun g hg => .inl ((hP.foot g).2 (.inr (.inl hg)))
 have gA_FpA : ∀ g, FpA g → Fp g ∨ w.heap.size ≤ g := fun g hg => .inl ((hP.foot g).2 (.inr (.inr (.inl hg))))
 have gA_FpG : ∀ g, FpG g → Fp g ∨ w.heap.size ≤ g := fun g hg => .inl ((hP.foot g).2 (.inr (.inr (.inr hg))))
 have hF := Only.refl (Fp) w
 refine Zen 61 Try.func15 ?_
 refine Zsr ?_
 refine Za ?_
 refine Znn ?_
 refine Zsq ?_
 refine Zsr ?_
 refine Zm ?_
 refine Zk cf43 (cnone_c hB) ?_
 rintro v w9 ⟨rfl, hw9⟩
 obtain rfl := hw9.symm
 refine Znn ?_
 refine Zcf ?_
 refine Zsk ?_
 refine Znx ?_
 refine Zsr ?_
 refine Zm ?_
 refine Zm ?_
 refine Zk (args := #[.int .u32 addr, .int .i64 width]) cf54 (place_c addr width (by omega) _) ?_
 rintro v w9 ⟨rfl, hw9⟩
 obtain rfl := hw9.symm
 refine Zm ?_
 refine Zt ?_
 refine Zt ?_
 refine Zt ?_
 refine Za ?_
 refine Za ?_
 refine Za ?_
 refine Znn ?_
 refine Zsq ?_
 refine Zsq ?_
 intro a fr
 rw [hrt] at fr
 revert a
 refine Zrg ?_
 refine Zm ?_
 refine Zv (.bool false) (fun _ fr => x_not rfl (fr.ev rfl) rfl) ?_
 refine Znn ?_
 refine Zcf ?_
 refine Zsk ?_
 refine Znx ?_
 refine Zsq ?_
 have hrd := rightA_yes (by omega) hrt
 refine Zrg ?_
 refine Zm ?_
 refine Zn ?_
 refine Zf fo83_1 ?_
 refine Zd pl79 (hB.cell 1 rfl) ?_
 refine Zm ?_
 refine Zk (args := #[.pointer (some ⟨lb, 0, none⟩), .int .u32 (addr / 16)]) cf55 (find_c (addr / 16) (by omega) hL) ?_
 rintro v w5 ⟨rfl, hN6⟩
 refine Zm ?_
 refine Zt ?_
 refine Zt ?_
 refine Zna (z := zv1) (cs := lnE.arr ln0) (by kernel_rfl) fun b7 w8 hN9 B10 hb11 => ?_
 replace hB := hB.new hN6
 have ne_b_b7 : NE b b7 := NE.mk (Nat.lt_of_lt_of_le hB.lt hb11)
 replace hL := hL.new hN6
 have ap_FpL_b7 : ¬ FpL b7 := hL.apart hb11
 replace hA := hA.new hN6
 have ap_FpA_b7 : ¬ FpA b7 := hA.apart hb11
 replace hG := hG.new hN6
 have ap_FpG_b7 : ¬ FpG b7 := hG.apart hb11
 replace hF := hF.trNew hN6
 have g_b7 := Nat.le_trans hF.size hb11
 refine ZsS sz39 (lnE.all _) B10 (lnE.size _) (lnE.size _) fun w12 hO13 hBq => ?_
 replace B10 := hBq
 clear hBq
 refine Za ?_
 refine Znn ?_
 refine Zsq ?_
 refine Zsr ?_
 refine Zf fo39_1 ?_
 refine Zd (v := .int .i64 (((getN L (addr / 16)).getD ln0).state)) pl36 (B10.cell 1 rfl) ?_
 refine Zk cf44 (writes_c (((getN L (addr / 16)).getD ln0).state) _) ?_
 rintro v _ ⟨rfl, hw9⟩
 obtain rfl := hw9.symm
 intro a fr
 rw [hwx] at fr
 revert a
 refine Zv (.bool false) (fun _ fr => x_not rfl (fr.ev rfl) rfl) ?_
 refine Znn ?_
 refine Zcf ?_
 refine Zsk ?_
 refine Znx ?_
 refine Zsq ?_
 refine Zsr ?_
 refine Zm ?_
 refine Zm ?_
 refine Znn ?_
 refine Zbl ?_
 intro a fr
 replace hB := (hB.new hN9).only hO13 ne_b_b7
 replace hL := (hL.new hN9).only hO13 (ne1P ap_FpL_b7)
 replace hA := (hA.new hN9).only hO13 (ne1P ap_FpA_b7)
 replace hG := (hG.new hN9).only hO13 (ne1P ap_FpG_b7)
 replace hF := (hF.trNew hN9).loc hO13 (.inr g_b7)
 refine fx_loop (fun nM a wL => ∃ j : Nat, nM = (width - j).toNat ∧ Fr (61, []) [(0, .pointer (some ⟨b, 0, none⟩)), (1, .int .u32 addr), (2, .int .i64 width), (3, .int .u32 value), (9, .int .u32 (addr / 16)), (10, .int .i64 (addr % 16)), (12, .pointer (some ⟨b7, 0, none⟩)), (39, .int .i64 width), (40, .int .i64 ((j : Nat) : Int))] a ∧ Only (Fp) w wL ∧ Blk wL b 83 #[.int .i64 id, .pointer (some ⟨lb, 0, none⟩), pa, pg] ∧ LinesAt wL FpL lb n ways L ∧ AskAt wL FpA pa ask ∧ GivAt wL FpG pg giv ∧ Blk wL b7 39 (lnE.arr { ((getN L (addr / 16)).getD ln0) with bs := wrB ((getN L (addr / 16)).getD ln0).bs (addr % 16).toNat value j }) ∧ ((j : Nat) : Int) ≤ width) (n0 := _) ⟨0, rfl, fr.sub ⟨rfl, rfl, rfl, rfl, rfl, rfl, rfl, rfl, rfl, trivial⟩, hF, hB, hL, hA, hG, B10, by omega⟩ ?_
 clear fr a
 rintro n17 a w16 ⟨j, rfl, fr, hF, hB, hL, hA, hG, B10, hj⟩
 revert a
 refine Zsr ?_
 refine Zv _ (fun _ fr => x_lss rfl (fr.ev rfl) (fr.ev rfl) rfl) ?_
 refine Znn ?_
 refine Zsq ?_
 refine Zcd (fun hc18 => ?_) (fun hc18 => ?_)
 ·have hc18 := of_decide_eq_true hc18
  refine Zsk ?_
  refine Znx ?_
  refine Zsq ?_
  refine Zbl ?_
  refine Zsr ?_
  refine Zm ?_
  refine Za ?_
  refine Znn ?_
  refine Zrg ?_
  refine Zm ?_
  refine Zm ?_
  refine Zv _ (fun _ fr => x_add rfl (fr.ev rfl) (fr.ev rfl) (i64w (r := ((((addr % 16).toNat) + j : Nat) : Int)) (by omega) (by omega))) ?_
  refine Zm ?_
  refine Zm ?_
  refine Zv _ (fun _ fr => x_mul rfl rfl (fr.ev rfl) (i64w (r := ((8 * j : Nat) : Int)) (by omega) (by omega))) ?_
  refine Zv (.int .u32 (value / 256 ^ j)) (fun _ fr => x_shr rfl (fr.ev rfl) (fr.ev rfl) (by omega) (sh_dn (by omega))) ?_
  refine Zv _ (fun _ fr => x_convert Try.underlying32 Try.underlying5 rfl (fr.ev rfl) (u8m _)) ?_
  refine Zf fo39_2 ?_
  refine Zv (.pointer (some ⟨b7, 2 + (((addr % 16).toNat) + j), none⟩)) (fun _ fr => x_indexArr Try.underlying22 sz16 rfl (fr.ev rfl) (fr.ev rfl) (by omega) (show 2 + (((addr % 16).toNat) + j) * 1 = 2 + (((addr % 16).toNat) + j) by omega)) ?_
  refine Zs1 (cs' := lnE.arr { ((getN L (addr / 16)).getD ln0) with bs := wrB ((getN L (addr / 16)).getD ln0).bs (addr % 16).toNat value (j + 1) }) sz5 B10 (by rw [lnE.size]; show _ < 18; omega) (ln_setb ((getN L (addr / 16)).getD ln0) (addr % 16).toNat j value (by omega)) fun w19 hO20 hBq => ?_
  replace B10 := hBq
  clear hBq
  refine Znl ?_
  refine Zb ?_
  refine Znx ?_
  refine Zrg ?_
  refine Zv _ (fun _ fr => x_add rfl (fr.ev rfl) rfl (i64w (r := ((j + 1 : Nat) : Int)) (by omega) (by omega))) ?_
  refine Zm ?_
  intro a fr
  refine wpList_nil ?_
  refine fx_next ?_
  replace hB := hB.only hO20 ne_b_b7
  replace hL := hL.only hO20 (ne1P ap_FpL_b7)
  replace hA := hA.only hO20 (ne1P ap_FpA_b7)
  replace hG := hG.only hO20 (ne1P ap_FpG_b7)
  replace hF := hF.loc hO20 (.inr g_b7)
  exact ⟨_, by omega, (j + 1), rfl, fr.sub ⟨rfl, rfl, rfl, rfl, rfl, rfl, rfl, rfl, rfl, trivial⟩, hF, hB, hL, hA, hG, B10, by omega⟩
 ·have hc18 := of_decide_eq_false hc18
  refine Zex ?_
  refine Zxt ?_
  refine Zxt ?_
  refine Zxx ?_
  refine Znx ?_
  refine Zsr ?_
  refine Zf fo39_1 ?_
  refine Zs1 (cs' := lnE.arr { { ((getN L (addr / 16)).getD ln0) with bs := wrB ((getN L (addr / 16)).getD ln0).bs (addr % 16).toNat value j } with state := 3 }) sz36 B10 (by rw [lnE.size]; decide) (ln_setstate _ _) fun w21 hO22 hBq => ?_
  replace B10 := hBq
  clear hBq
  refine Znn ?_
  refine Zsq ?_
  obtain rfl : j = width.toNat := by omega
  replace B10 : Blk w21 b7 39 (lnE.arr (wrLn ((getN L (addr / 16)).getD ln0) addr width value)) := B10
  have hpe := put_there (n := n) (ways := ways) hwx (wrLn ((getN L (addr / 16)).getD ln0) addr width value) rfl rfl
  have hxw := (wrLn ((getN L (addr / 16)).getD ln0) addr width value).hn
  refine ZhT (n := 6) 6 (fun w => Blk w b 83 #[.int .i64 id, .pointer (some ⟨lb, 0, none⟩), pa, pg] ∧ Blk w b7 39 (lnE.arr (wrLn ((getN L (addr / 16)).getD ln0) addr width value)) ∧ True) ?_
  intro w23 hN24
  replace hB := (hB.only hO22 ne_b_b7).new hN24
  replace B10 := B10.new hN24
  have hS9 := And.intro hB (And.intro B10 trivial)
  refine Zhm 0 hS9 ?_
  refine Zhc 1 hS9 ?_
  refine Zhf 2 fo83_1 hS9 ?_
  refine Zhl 3 pl79 hS9 (fun _ ⟨hB, _⟩ => (hB.cell 1 rfl)) ?_
  refine ZhE 4 lnE ag39 hS9 (fun _ ⟨_, B10, _⟩ => (B10.rangeE lnE)) ?_
  refine Zh1 5 ?_
  replace hL := (hL.only hO22 (ne1P ap_FpL_b7)).new hN24
  refine Zk cf56 (put_c (wrLn ((getN L (addr / 16)).getD ln0) addr width value) hL) ?_
  rintro v w28 ⟨rfl, Fp25, H26, hN29, mv27⟩
  have ap_Fp25_b : ¬ Fp25 b := moved_apartP mv27 ap_FpL_b hB.lt
  replace hA := (hA.only hO22 (ne1P ap_FpA_b7)).new hN24
  have ap2_Fp25_FpA : ∀ k, Fp25 k → FpA k → False := moved_apart2P mv27 ap2_FpL_FpA fun _ hg => hA.lt hg
  replace hG := (hG.only hO22 (ne1P ap_FpG_b7)).new hN24
  have ap2_Fp25_FpG : ∀ k, Fp25 k → FpG k → False := moved_apart2P mv27 ap2_FpL_FpG fun _ hg => hG.lt hg
  replace hF := (hF.loc hO22 (.inr g_b7)).trNew hN24
  have gA_Fp25 := gA_movedP hF mv27 gA_FpL
  clear hL
  intro a fr
  rw [hpe] at fr
  revert a
  replace hB := hB.only hN29 ap_FpL_b
  replace B10 := B10.only hN29 ap_FpL_b7
  refine Zhb ⟨hB, B10, trivial⟩ ?_
  refine Zhn ?_
  refine Ztl ?_
  refine Za ?_
  refine Znn ?_
  refine Zrt ?_
  refine Zre rfl [_] ⟨rfl, trivial⟩ ?_
  replace hA := hA.only hN29 (fun g h1 h2 => (symP ap2_FpL_FpA) g h1 h2)
  replace hG := hG.only hN29 (fun g h1 h2 => (symP ap2_FpL_FpG) g h1 h2)
  replace hF := hF.locP hN29 gA_FpL
  exact ⟨_, rfl, wr_ok (show writeF ⟨id, n, ways, L, ask, giv⟩ addr width value = (_, _) by unfold writeF; rw [if_neg (by rw [hrt]; decide), if_neg (by rw [hwt]; decide)]) (fun k => k = b ∨ Fp25 k ∨ FpA k ∨ FpG k) ⟨lb, Fp25, _, _, FpA, FpG, hB, H26, hA, hG, ⟨ap_Fp25_b, ap_FpA_b, ap_FpG_b, ap2_Fp25_FpA, ap2_Fp25_FpG, ap2_FpA_FpG, fun _ => Iff.rfl⟩⟩ hF (fun g hg => hg.elim (fun e => by rw [e]; exact .inl ((hP.foot b).2 (.inl rfl))) fun h => h.elim (gA_Fp25 g) fun h => h.elim (gA_FpA g) (gA_FpG g))⟩
theorem write_c (addr : Int) (ha : 0 ≤ addr ∧ addr < 4294967296) (width : Int) {w : World} {Fp : Nat → Prop} {b : Nat} {id : Int} {n : Nat} {ways : Int} {L : List Ln} {ask : Option (Int × Bool)} {giv : Option Ln} (H : CacheAt w Fp b ⟨id, n, ways, L, ask, giv⟩) (value : Int) : Calls Try.prog 15 #[.pointer (some ⟨b, 0, none⟩), .int .u32 addr, .int .i64 width, .int .u32 value] w (Ret fun v w' => WriteR w Fp b (writeF ⟨id, n, ways, L, ask, giv⟩ addr width value) v w') := by
  cases hr : rightA addr width with
  | false => exact write_a addr ha width H value hr
  | true => cases hw : writesB (stateOf L (addr / 16)) with
    | false => exact write_m addr ha width H value hr hw
    | true => exact write_y addr ha width H value hr hw
end Go.Proofs.Ytflnlmibkbojcaa
namespace Go.Proofs.Ytflnlmibkbojcaa
open Go.RowKit
section
variable {n : Nat} {ways : Int} {L : List Ln} {num k : Int} {x : Ln}
theorem mem_of_get (h : getN L num = some x) : x ∈ L := List.mem_of_find?_eq_some h
theorem drop_lt {l : List Ln} (h : ∃ y ∈ l, y.num = num) : (dropL l num).length < l.length := by
  unfold dropL
  induction l with
  | nil => obtain ⟨y, hy, _⟩ := h; cases hy
  | cons z r ih =>
    by_cases hz : z.num = num
    · rw [List.filter_cons_of_neg (by simp [isNum, hz])]
      have := List.length_filter_le (fun x => !isNum num x) r
      simp only [List.length_cons]
      omega
    · rw [List.filter_cons_of_pos (by simp [isNum, hz])]
      obtain ⟨y, hy, he⟩ := h
      rcases List.mem_cons.1 hy with rfl | hy
      · exact absurd he hz
      · have := ih ⟨y, hy, he⟩
        simp only [List.length_cons]
        omega
theorem get_drop : getN (dropL L k) num = if num = k then none else getN L num := by
  unfold getN dropL
  induction L with
  | nil => simp
  | cons z r ih =>
    by_cases hz : z.num = k
    · rw [List.filter_cons_of_neg (by simp [isNum, hz]), ih]
      by_cases hn : num = k
      · simp [hn]
      · have : isNum num z = false := by simp [isNum, hz]; exact fun e => hn e.symm
        simp [hn, List.find?, this]
    · rw [List.filter_cons_of_pos (by simp [isNum, hz])]
      by_cases hn : num = k
      · have : isNum num z = false := by simp [isNum, hn, hz]
        simp only [List.find?, this, ih]
        try simp [hn]
      · simp only [List.find?, ih, if_neg hn]
theorem get_repl (h : getN L x.num ≠ none) : getN (repl x L) num = if num = x.num then some x else getN L num := by
  unfold getN at *
  induction L with
  | nil => simp at h
  | cons z r ih =>
    by_cases hz : z.num = x.num
    · simp only [repl, if_pos hz]
      by_cases hn : num = x.num
      · simp [hn, List.find?, isNum]
      · have h1 : isNum num x = false := by simp [isNum]; exact fun e => hn e.symm
        have h2 : isNum num z = false := by simp [isNum, hz]; exact fun e => hn e.symm
        simp [hn, List.find?, h1, h2]
    · simp only [repl, if_neg hz]
      have h3 : isNum x.num z = false := by simp [isNum, hz]
      rw [List.find?, h3] at h
      by_cases hn : num = x.num
      · have : isNum num z = false := by simp [isNum, hn, hz]
        simp only [List.find?, this, ih h]
      · simp only [List.find?, ih h, if_neg hn]
theorem mem_ofs (h : x ∈ L) : x ∈ ofs n L (si n x.num) := List.mem_filter.2 ⟨h, by simp [inSet]⟩
theorem HasRoom.drop (hn : 0 < n) (hf : Fits n ways L) (h : HasRoom n ways L num) (k : Int) : HasRoom n ways (dropL L k) num := by
  intro h1
  rw [ofs_drop]
  have h2 := dropL_le (ofs n L (si n num)) k
  have h3 := hf _ (si_lt (num := num) hn)
  cases hg : getN L num with
  | none => have := h hg; omega
  | some y =>
    rw [get_drop, hg] at h1
    split at h1
    · rename_i e
      subst e
      have hy := get_num hg
      have := drop_lt (num := num) (l := ofs n L (si n num)) ⟨y, by have := mem_ofs (n := n) (mem_of_get hg); rwa [hy] at this, hy⟩
      omega
    · cases h1
theorem putL_there (h : getN L x.num ≠ none) (he : putE n ways L x = 0) : putL n ways L x = repl x L := by
  unfold putL
  rw [if_pos he, if_neg h]
theorem HasRoom.repl (h : HasRoom n ways L num) (hx : getN L x.num ≠ none) : HasRoom n ways (repl x L) num := by
  intro h1
  rw [get_repl hx] at h1
  split at h1
  · cases h1
  · by_cases e : si n num = si n x.num
    · rw [e, ofs_repl_same, repl_len, ← e]; exact h h1
    · rw [ofs_repl_other _ _ e]; exact h h1
theorem room_vic (h : vicL n ways L num k = none) : HasRoom n ways L num := by
  intro h1
  unfold vicL at h
  split at h
  · cases h
  · rename_i h2
    have : ¬ ways ≤ ((ofs n L (si n num)).length : Int) := fun h3 => h2 ⟨h1, h3⟩
    omega
theorem vic_mem (hw : 1 ≤ ways) (h : vicL n ways L num k = some x) : x ∈ ofs n L (si n num) ∧ getN L num = none ∧ ways ≤ ((ofs n L (si n num)).length : Int) := by
  unfold vicL at h
  split at h
  · rename_i h2
    cases h
    refine ⟨?_, h2⟩
    have hl : 0 < (ofs n L (si n num)).length := by omega
    have hp := pickAt_lt k _ hl
    simp [List.getD, hp]
  · cases h
theorem room_out (hn : 0 < n) (hw : 1 ≤ ways) (hf : Fits n ways L) (h : vicL n ways L num k = some x) : HasRoom n ways (dropL L x.num) num := by
  intro _
  obtain ⟨h1, h2, h3⟩ := vic_mem hw h
  rw [ofs_drop]
  have h4 := drop_lt (num := x.num) (l := ofs n L (si n num)) ⟨x, h1, rfl⟩
  have h5 := hf _ (si_lt (num := num) hn)
  omega
end
section
variable {d : CD} (hb : 0 < d.n ∧ d.n ≤ 64 ∧ 1 ≤ d.ways ∧ d.ways ≤ 8) (hf : Fits d.n d.ways d.L) (hr : RoomOk d)
include hf hr
theorem RoomOk.drop (hb : 0 < d.n ∧ d.n ≤ 64 ∧ 1 ≤ d.ways ∧ d.ways ≤ 8) (k : Int) (g : Option Ln) : RoomOk { d with L := dropL d.L k, giv := g } := fun l wr h => (hr l wr h).drop hb.1 hf k
include hb
omit hb hf in
theorem write_room (addr width v : Int) : RoomOk (writeF d addr width v).1 := by
  unfold writeF
  split
  · exact hr
  · split
    · exact hr
    · rename_i h
      have h : writesB ((getN d.L (addr / 16)).getD ln0).state = true := by simpa [stateOf] using h
      intro l wr hl
      have hx : getN d.L (wrLn ((getN d.L (addr / 16)).getD ln0) addr width v).num ≠ none := by
        obtain ⟨y, hy, hd⟩ := w_there h
        show getN d.L ((getN d.L (addr / 16)).getD ln0).num ≠ none
        rw [hd, get_num hy, hy]
        simp
      show HasRoom d.n d.ways (putL d.n d.ways d.L _) l
      rw [putL_there hx (put_there h _ rfl rfl)]
      exact (hr l wr hl).repl hx
theorem ask_room (line : Int) (hln : 0 ≤ line ∧ line < 4294967296) (wr : Bool) (pick : Int) : RoomOk (askF d line hln wr pick).1 := by
  unfold askF
  split
  · exact hr
  · split
    · exact hr
    · split
      · rename_i hv
        intro l w' h
        cases h
        exact room_vic hv
      · rename_i x hv
        split
        · intro l w' h
          cases h
          show HasRoom (outF d x).1.n (outF d x).1.ways (outF d x).1.L line
          rename_i ho
          unfold outF at ho ⊢
          split
          · exact room_out hb.1 hb.2.2.1 hf hv
          · split
            · rename_i h1 _ _ h2
              rw [if_neg h1] at ho
              simp [h2] at ho
            · exact room_out hb.1 hb.2.2.1 hf hv
        · exact hr
theorem back_room (m : Msg) : RoomOk (takeF.backF d m).1 := by
  unfold takeF.backF
  split
  · rename_i h
    have h : writesB ((getN d.L m.line).getD ln0).state = true := h
    obtain ⟨y, hy, hd⟩ := w_there h
    rw [hd]
    by_cases hk : m.kind = 4
    · simp only [hk, if_true]
      intro l w' hl
      have hx : getN d.L ({ y with state := 1 } : Ln).num ≠ none := by
        show getN d.L y.num ≠ none
        rw [get_num hy, hy]
        simp
      have hp : putE d.n d.ways d.L { y with state := 1 } = 0 := by
        unfold putE
        rw [if_neg (by simp [okS]), if_neg (fun hh => hx hh.1)]
      show HasRoom d.n d.ways (putL d.n d.ways d.L { y with state := 1 }) l
      rw [putL_there hx hp]
      exact (hr l w' hl).repl hx
    · simp only [if_neg hk]
      exact RoomOk.drop hf hr hb y.num d.giv
  · exact hr
theorem take_room (m : Msg) : RoomOk (takeF d m).1 := by
  unfold takeF
  split
  · exact hr
  split
  · split
    · intro l w' h
      cases h
    · exact hr
  split
  · split
    · split
      · exact hr
      · exact back_room hb hf hr m
    · exact back_room hb hf hr m
  split
  · split
    · exact hr
    · exact RoomOk.drop hf hr hb m.line d.giv
  split
  · exact fun l w' h => hr l w' h
  · exact hr
omit hb hf in
theorem data_room (m : Msg) (h : dataOk d m = true) : putE d.n d.ways d.L (dataLn m) = 0 := by
  unfold dataOk at h
  split at h
  · rename_i l wr ha
    simp only [Bool.and_eq_true, decide_eq_true_eq] at h
    have h1 := hr l wr ha
    rw [h.1] at h1
    have ho : ¬ okS (dataLn m) = false := by
      simp only [okS, dataLn, mkL]
      split <;> decide
    have h2 : (dataLn m).num = m.line := rfl
    unfold putE
    rw [if_neg ho, if_neg]
    rintro ⟨h3, h4⟩
    rw [h2] at h3 h4
    have := h1 h3
    omega
  · cases h
omit hf hr hb in
theorem new_room (id : Int) (n : Nat) (ways : Int) : RoomOk ⟨id, n, ways, [], none, none⟩ := fun l w' h => by cases h
end
end Go.Proofs.Ytflnlmibkbojcaa
namespace Go.Proofs.Ytflnlmibkbojcaa
open Go.RowKit
structure RC where
  id : Int
  n : Int
  ways : Int
  A : Option Addr
  len : Nat
  cap : Nat
  ak : Bool
  al : Int
  aw : Bool
  gv : Bool
  gx : Ln
  deriving DecidableEq
def RC.cells (m : RC) : List Value := .int .i64 m.id :: .int .i64 m.n :: .int .i64 m.ways :: .slice m.A m.len m.cap :: .bool m.ak :: .int .u32 m.al :: .bool m.aw :: .bool m.gv :: m.gx.cells
theorem RC.len_ (m : RC) : m.cells.length = 26 := by simp [RC.cells, m.gx.len]
theorem RC.one_ (m : RC) : ∀ v ∈ m.cells, v.oneCell' = true := by
  intro v hv
  simp only [RC.cells, List.mem_cons] at hv
  rcases hv with rfl | rfl | rfl | rfl | rfl | rfl | rfl | rfl | hv
  iterate 8 rfl
  exact m.gx.one v hv
def rcE : Enc Try.prog RC where
  T := 42
  n := 26
  cells := RC.cells
  len := RC.len_
  one := RC.one_
  pos := by decide
def rc0 : RC := ⟨0, 0, 0, none, 0, 0, false, 0, false, false, ln0⟩
section
variable (m : RC)
theorem rc_set3 (A : Option Addr) (n c : Nat) : (rcE.arr m).setIfInBounds 3 (.slice A n c) = rcE.arr (RC.mk m.id m.n m.ways A n c m.ak m.al m.aw m.gv m.gx) := by simp [Enc.arr, rcE, RC.cells]
theorem rc_set4 (b : Bool) : (rcE.arr m).setIfInBounds 4 (.bool b) = rcE.arr (RC.mk m.id m.n m.ways m.A m.len m.cap b m.al m.aw m.gv m.gx) := by simp [Enc.arr, rcE, RC.cells]
theorem rc_set5 (x : Int) : (rcE.arr m).setIfInBounds 5 (.int .u32 x) = rcE.arr (RC.mk m.id m.n m.ways m.A m.len m.cap m.ak x m.aw m.gv m.gx) := by simp [Enc.arr, rcE, RC.cells]
theorem rc_set6 (b : Bool) : (rcE.arr m).setIfInBounds 6 (.bool b) = rcE.arr (RC.mk m.id m.n m.ways m.A m.len m.cap m.ak m.al b m.gv m.gx) := by simp [Enc.arr, rcE, RC.cells]
theorem rc_set7 (b : Bool) : (rcE.arr m).setIfInBounds 7 (.bool b) = rcE.arr (RC.mk m.id m.n m.ways m.A m.len m.cap m.ak m.al m.aw b m.gx) := by simp [Enc.arr, rcE, RC.cells]
theorem rc_set8 (x : Ln) : (rcE.cells m).take 8 ++ lnE.cells x ++ (rcE.cells m).drop (8 + 18) = rcE.cells (RC.mk m.id m.n m.ways m.A m.len m.cap m.ak m.al m.aw m.gv x) := by
  show (m.cells).take 8 ++ x.cells ++ (m.cells).drop 26 = RC.cells _
  rw [List.drop_eq_nil_of_le (by rw [m.len_]; omega)]
  simp [RC.cells]
theorem rc_back : ((rcE.arr m).toList.drop 8).take 18 = lnE.cells m.gx := by
  rw [rcE.toList]
  show (m.cells.drop 8).take 18 = m.gx.cells
  simp only [RC.cells, List.drop_succ_cons, List.drop_zero]
  exact List.take_of_length_le (by rw [m.gx.len]; omega)
theorem rc_bs : ((rcE.arr m).toList.drop 10).take 16 = bsE.cells m.gx.bs := by
  rw [rcE.toList]
  show (m.cells.drop 10).take 16 = b16c m.gx.bs
  simp only [RC.cells, Ln.cells, List.drop_succ_cons, List.drop_zero]
  exact List.take_of_length_le (by simp [m.gx.bs.2.1])
end
def wl (n : Nat) (x : Ln) (there : Bool) : List Ln → Bool → List Ln
  | [], put => if there || put then [] else [x]
  | l :: r, put => (if !there && !put && decide (si n x.num < si n l.num) then [x] else []) ++ (if l.num = x.num then x else l) :: wl n x there r (put || (!there && !put && decide (si n x.num < si n l.num)))
def withF (n : Nat) (M : List Ln) (x : Ln) : List Ln := wl n x (decide (0 ≤ fndI M x.num)) M false
theorem drop_at {M : List Ln} {k : Nat} (h : k < M.length) : M.drop k = M.getD k ln0 :: M.drop (k + 1) := by
  rw [List.drop_eq_getElem_cons h]
  simp [List.getD, h]
theorem wl_end {n : Nat} {x : Ln} {t p : Bool} {M : List Ln} {k : Nat} (h : M.length ≤ k) : wl n x t (M.drop k) p = if t || p then [] else [x] := by
  rw [List.drop_eq_nil_of_le h]
  rfl
theorem state_at {M : List Ln} {num : Int} {i : Nat} (hi : i < M.length) (h : (M.getD i ln0).num = num) (hall : ∀ j, j < i → ¬ (M.getD j ln0).num = num) : stateOf M num = (M.getD i ln0).state := by
  unfold stateOf
  rw [get_at hi h hall]
  rfl
theorem state_no {M : List Ln} {num : Int} (h : fndI M num = -1 ∧ ∀ x ∈ M, ¬ x.num = num) : stateOf M num = 0 := by
  unfold stateOf
  rw [fnd_none h]
  rfl
end Go.Proofs.Ytflnlmibkbojcaa
namespace Go.Proofs.Ytflnlmibkbojcaa
open Go.RowKit
set_option maxRecDepth 100000 in
set_option maxHeartbeats 4000000 in
theorem rcset_c (num : Int) (hnum : 0 ≤ num ∧ num < 4294967296) {id : Int} {n : Nat} {ways : Int} {A : Option Addr} {cap : Nat} {L : List Ln} {ak : Bool} {al : Int} {aw gv : Bool} {gx : Ln} (hn : 0 < n) (w : World) : Calls Try.prog 61 #[.agg (rcE.arr (RC.mk id ((n : Nat) : Int) ways A L.length cap (ak) al (aw) (gv) gx)), .int .u32 num] w (Ret fun v w' => v = .int .i64 ((si n num : Nat) : Int) ∧ New w w') := by
 have hF := Only.refl (fun _ => False) w
 refine Zen 10 Try.func61 ?_
 refine Zsr ?_
 refine Znb (cs := rcE.arr (RC.mk id ((n : Nat) : Int) ways A L.length cap (ak) al (aw) (gv) gx)) fun b1 w2 hN3 B4 hb5 => ?_
 refine Za ?_
 refine Znn ?_
 refine Zsr ?_
 refine Zm ?_
 refine Zv (.int .i64 num) (fun _ fr => x_convert Try.underlying32 Try.underlying3 rfl (fr.ev rfl) (i64w (r := num) rfl (by omega))) ?_
 refine Zf fo42_1 ?_
 refine Zd (v := .int .i64 ((n : Nat) : Int)) pl3 (B4.cell 1 rfl) ?_
 refine Zv (.int .i64 ((si n num : Nat) : Int)) (fun _ fr => x_rem rfl (fr.ev rfl) (fr.ev rfl) (by omega) (tmod_si (by omega) (by omega))) ?_
 refine Za ?_
 refine Znn ?_
 refine Zrt ?_
 refine Zre rfl [_] ⟨rfl, trivial⟩ ?_
 replace hF := hF.trNew hN3
 exact ⟨_, rfl, rfl, hF⟩
set_option maxRecDepth 100000 in
set_option maxHeartbeats 4000000 in
theorem rcmsg_c (kind : Int) (num : Int) (hnum : 0 ≤ num ∧ num < 4294967296) {id : Int} {n : Nat} {ways : Int} {A : Option Addr} {cap : Nat} {L : List Ln} {ak : Bool} {al : Int} {aw gv : Bool} {gx : Ln} (w : World) : Calls Try.prog 64 #[.agg (rcE.arr (RC.mk id ((n : Nat) : Int) ways A L.length cap (ak) al (aw) (gv) gx)), .int .i64 kind, .int .u32 num] w (Ret fun v w' => v = .agg (msgE.arr (mkM kind id 4 num b16z hnum)) ∧ New w w') := by
 have hF := Only.refl (fun _ => False) w
 refine Zen 12 Try.func64 ?_
 refine Zsr ?_
 refine Znb (cs := rcE.arr (RC.mk id ((n : Nat) : Int) ways A L.length cap (ak) al (aw) (gv) gx)) fun b1 w2 hN3 B4 hb5 => ?_
 refine Zna (z := zv3) (cs := msgE.arr msg0) (by kernel_rfl) fun b6 w7 hN8 B9 hb10 => ?_
 replace hF := hF.trNew hN3
 have g_b6 := Nat.le_trans hF.size hb10
 refine Znn ?_
 refine Zsr ?_
 refine Zm ?_
 refine Zf fo42_0 ?_
 replace B4 := B4.new hN8
 refine Zd (v := .int .i64 id) pl3 (B4.cell 0 rfl) ?_
 refine Zm ?_
 refine Zv (.agg (msgE.arr (mkM kind id 4 num))) (fun a fr => x_build (cells := msgE.arr (mkM kind id 4 num)) rfl (by simp only [List.map_toArray, List.map_cons, List.map_nil, show a.eval (.tmp 7) = .int .i64 kind from fr.ev rfl, show a.eval (.tmp 9) = .int .i64 id from fr.ev rfl, show a.eval (.tmp 10) = .int .u32 num from fr.ev rfl]; kernel_rfl)) ?_
 refine ZsS sz35 (msgE.all _) B9 (msgE.size _) (msgE.size _) fun w11 hO12 hBq => ?_
 replace B9 := hBq
 clear hBq
 refine Znn ?_
 refine Zrt ?_
 refine Zre rfl [_] ⟨⟨_, rfl, loadV_E (E := msgE) ag35 rfl (B9.rangeE msgE)⟩, trivial⟩ ?_
 replace hF := (hF.trNew hN8).loc hO12 (.inr g_b6)
 exact ⟨_, rfl, rfl, hF⟩
set_option maxRecDepth 100000 in
set_option maxHeartbeats 4000000 in
theorem rcfind_c (num : Int) {w : World} {id : Int} {n : Nat} {ways : Int} {A : Option Addr} {cap : Nat} {L : List Ln} {ak : Bool} {al : Int} {aw gv : Bool} {gx : Ln} (hV : View lnE w A cap L)  : Calls Try.prog 58 #[.agg (rcE.arr (RC.mk id ((n : Nat) : Int) ways A L.length cap (ak) al (aw) (gv) gx)), .int .u32 num] w (Ret fun v w' => v = .int .i64 (fndI L num) ∧ New w w') := by
 have hVl := hV.len
 unfold maxLen at hVl
 have hF := Only.refl (fun _ => False) w
 refine Zen 22 Try.func58 ?_
 refine Zsr ?_
 refine Znb (cs := rcE.arr (RC.mk id ((n : Nat) : Int) ways A L.length cap (ak) al (aw) (gv) gx)) fun b1 w2 hN3 B4 hb5 => ?_
 refine Za ?_
 refine Znn ?_
 refine Zsq ?_
 refine Zsr ?_
 refine Za ?_
 refine Znn ?_
 refine Zbl ?_
 intro a fr
 replace hV := hV.new hN3
 replace hF := hF.trNew hN3
 refine fx_loop (fun nM a wL => ∃ i : Nat, nM = L.length - i ∧ Fr (22, []) [(1, .int .u32 num), (2, .pointer (some ⟨b1, 0, none⟩)), (5, .int .i64 ((i : Nat) : Int))] a ∧ Only (fun _ => False) w wL ∧ View lnE wL A cap L ∧ Blk wL b1 42 (rcE.arr (RC.mk id ((n : Nat) : Int) ways A L.length cap (ak) al (aw) (gv) gx)) ∧ i ≤ L.length ∧ (∀ j, j < i → ¬ (L.getD j ln0).num = num)) (n0 := _) ⟨0, rfl, fr.sub ⟨rfl, rfl, rfl, trivial⟩, hF, hV, B4, by omega, (fun j hj => absurd hj (by omega))⟩ ?_
 clear fr a
 rintro n7 a w6 ⟨i, rfl, fr, hF, hV, B4, hi, hall⟩
 revert a
 refine Zsq ?_
 refine Zsr ?_
 refine Zm ?_
 refine Zf fo42_3 ?_
 refine Zd (v := .slice A L.length cap) pl40 (B4.cell 3 rfl) ?_
 refine Zv _ (fun _ fr => x_len Try.underlying40 rfl (fr.ev rfl)) ?_
 refine Zv _ (fun _ fr => x_lss rfl (fr.ev rfl) (fr.ev rfl) rfl) ?_
 refine Znn ?_
 refine Zcd (fun hc8 => ?_) (fun hc8 => ?_)
 ·have hc8 := of_decide_eq_true hc8
  refine Zsk ?_
  refine Znx ?_
  refine Zsq ?_
  refine Zbl ?_
  refine Zsr ?_
  refine Zf fo42_3 ?_
  refine Zd (v := .slice A L.length cap) pl40 (B4.cell 3 rfl) ?_
  refine Zm ?_
  obtain ⟨g9, o10, hA11⟩ := (hV).some_ (by omega)
  refine Zv (.pointer (some ⟨g9, o10 + i * 18, none⟩)) (fun _ fr => x_indexV Try.underlying40 sz39 rfl (fr.ev rfl) hA11 (fr.ev rfl) (by omega) rfl) ?_
  refine Zf fo39_0 ?_
  refine Zd (v := .int .u32 ((L.getD i ln0).num)) pl32 (range_cell ((hV).elem hA11 i ln0 (by omega)) 0 rfl rfl) ?_
  refine Zm ?_
  refine Zv _ (fun _ fr => x_eql rfl (fr.ev rfl) (fr.ev rfl) rfl) ?_
  refine Znn ?_
  refine Zcd (fun hc12 => ?_) (fun hc12 => ?_)
  ·have hc12 := of_decide_eq_true hc12
   refine Zsr ?_
   refine Zm ?_
   refine Za ?_
   refine Znn ?_
   refine Zrt ?_
   refine Zr2 ?_
   refine Zr1 ?_
   refine Zr1 ?_
   refine Zr2 ?_
   refine Zr1 ?_
   refine Zre rfl [_] ⟨rfl, trivial⟩ ?_
   exact ⟨_, rfl, congrArg (Value.int .i64) (fnd_yes (by omega) hc12 hall).symm, hF⟩
  ·have hc12 := of_decide_eq_false hc12
   refine Zsk ?_
   refine Zb ?_
   refine Znx ?_
   refine Zrg ?_
   refine Zm ?_
   refine Zv _ (fun _ fr => x_add rfl (fr.ev rfl) rfl (i64w (r := ((i + 1 : Nat) : Int)) (by omega) (by omega))) ?_
   refine Za ?_
   intro a fr
   refine wpList_nil ?_
   refine fx_next ?_
   exact ⟨_, by omega, (i + 1), rfl, fr.sub ⟨rfl, rfl, rfl, trivial⟩, hF, hV, B4, by omega, fun j hj => by rcases Nat.lt_succ_iff_lt_or_eq.1 hj with h | rfl; exact hall j h; exact hc12⟩
 ·have hc8 := of_decide_eq_false hc8
  refine Zex ?_
  refine Zxt ?_
  refine Zxt ?_
  refine Zxx ?_
  refine Znx ?_
  refine Zsr ?_
  refine Za ?_
  refine Znn ?_
  refine Zrt ?_
  refine Zre rfl [_] ⟨rfl, trivial⟩ ?_
  exact ⟨_, rfl, congrArg (Value.int .i64) (fnd_no fun j hj => hall j (by omega)).symm, hF⟩
set_option maxRecDepth 100000 in
set_option maxHeartbeats 4000000 in
theorem rcstate_c (num : Int) {w : World} {id : Int} {n : Nat} {ways : Int} {A : Option Addr} {cap : Nat} {L : List Ln} {ak : Bool} {al : Int} {aw gv : Bool} {gx : Ln} (hV : View lnE w A cap L)  : Calls Try.prog 60 #[.agg (rcE.arr (RC.mk id ((n : Nat) : Int) ways A L.length cap (ak) al (aw) (gv) gx)), .int .u32 num] w (Ret fun v w' => v = .int .i64 (stateOf L num) ∧ New w w') := by
 have hVl := hV.len
 unfold maxLen at hVl
 have hF := Only.refl (fun _ => False) w
 refine Zen 17 Try.func60 ?_
 refine Zsr ?_
 refine Znb (cs := rcE.arr (RC.mk id ((n : Nat) : Int) ways A L.length cap (ak) al (aw) (gv) gx)) fun b1 w2 hN3 B4 hb5 => ?_
 refine Za ?_
 refine Znn ?_
 refine Zsr ?_
 refine ZE rcE ag42 (B4.rangeE rcE) ?_
 refine Zm ?_
 replace hV := hV.new hN3
 refine Zk cf58 (rcfind_c num (hV)) ?_
 rintro v w6 ⟨rfl, hN7⟩
 refine Za ?_
 refine Znn ?_
 refine Zsq ?_
 refine Zsq ?_
 rcases fnd_spec L num with ⟨hf, hno⟩ | ⟨i, hf, hi, hin, hall⟩
 ·intro a fr
  rw [hf] at fr
  revert a
  refine Zrg ?_
  refine Zm ?_
  refine Zv (.bool true) (fun _ fr => x_lss rfl (fr.ev rfl) rfl rfl) ?_
  refine Znn ?_
  refine Zct ?_
  refine Zsr ?_
  refine Za ?_
  refine Znn ?_
  refine Zrt ?_
  refine Zr1 ?_
  refine Zre rfl [_] ⟨rfl, trivial⟩ ?_
  replace hF := (hF.trNew hN3).trNew hN7
  exact ⟨_, rfl, congrArg (Value.int .i64) ((state_no ⟨hf, hno⟩).symm), hF⟩
 ·intro a fr
  rw [hf] at fr
  revert a
  have hi0 : ¬ ((i : Nat) : Int) < 0 := by omega
  have hi1 : 0 ≤ ((i : Nat) : Int) := by omega
  refine Zrg ?_
  refine Zm ?_
  refine Zv (.bool false) (fun _ fr => x_lss rfl (fr.ev rfl) rfl (decide_eq_false hi0)) ?_
  refine Znn ?_
  refine Zcf ?_
  refine Zsk ?_
  refine Znx ?_
  refine Zsr ?_
  refine Zf fo42_3 ?_
  replace B4 := B4.new hN7
  refine Zd (v := .slice A L.length cap) pl40 (B4.cell 3 rfl) ?_
  refine Zm ?_
  replace hV := hV.new hN7
  obtain ⟨g8, o9, hA10⟩ := (hV).some_ (by omega)
  refine Zv (.pointer (some ⟨g8, o9 + i * 18, none⟩)) (fun _ fr => x_indexV Try.underlying40 sz39 rfl (fr.ev rfl) hA10 (fr.ev rfl) (by omega) rfl) ?_
  refine Zf fo39_1 ?_
  refine Zd (v := .int .i64 ((L.getD i ln0).state)) pl36 (range_cell ((hV).elem hA10 i ln0 (by omega)) 1 rfl rfl) ?_
  refine Za ?_
  refine Znn ?_
  refine Zrt ?_
  refine Zre rfl [_] ⟨rfl, trivial⟩ ?_
  replace hF := (hF.trNew hN3).trNew hN7
  exact ⟨_, rfl, congrArg (Value.int .i64) ((state_at hi hin hall).symm), hF⟩
set_option maxRecDepth 100000 in
set_option maxHeartbeats 4000000 in
theorem rcright_no (addr : Int) (ha : 0 ≤ addr ∧ addr < 4294967296) (width : Int) (hw1 : ¬ width = 1) (hw2 : ¬ width = 2) (hw4 : ¬ width = 4) (w : World) : Calls Try.prog 57 #[.int .u32 addr, .int .i64 width] w (Ret fun v w' => v = .bool false ∧ w' = w) := by
 refine Zen 23 Try.func57 ?_
 refine Zsr ?_
 refine Za ?_
 refine Znn ?_
 refine Zsr ?_
 refine Zm ?_
 refine Zv (.bool false) (fun _ fr => x_eql rfl (fr.ev rfl) rfl (decide_eq_false hw1)) ?_
 refine Zm ?_
 refine Zm ?_
 refine Zv (.bool false) (fun _ fr => x_eql rfl (fr.ev rfl) rfl (decide_eq_false hw2)) ?_
 refine Zpf ?_
 refine Zm ?_
 refine Zm ?_
 refine Zv (.bool false) (fun _ fr => x_eql rfl (fr.ev rfl) rfl (decide_eq_false hw4)) ?_
 refine Zpf ?_
 refine Zm ?_
 refine Zs ?_
 refine Zs ?_
 refine Zs ?_
 refine Zs ?_
 refine Zs ?_
 refine Zs ?_
 refine Zpf ?_
 refine Za ?_
 refine Znn ?_
 refine Zrt ?_
 refine Zre rfl [_] ⟨rfl, trivial⟩ ?_
 exact ⟨_, rfl, rfl, rfl⟩
set_option maxRecDepth 100000 in
set_option maxHeartbeats 4000000 in
theorem rcright_1 (addr : Int) (ha : 0 ≤ addr ∧ addr < 4294967296) (w : World) : Calls Try.prog 57 #[.int .u32 addr, .int .i64 1] w (Ret fun v w' => v = .bool (decide (addr % 1 = 0)) ∧ w' = w) := by
 refine Zen 23 Try.func57 ?_
 refine Zsr ?_
 refine Za ?_
 refine Znn ?_
 refine Zsr ?_
 refine Zm ?_
 refine Zv (.bool true) (fun _ fr => x_eql rfl (fr.ev rfl) rfl rfl) ?_
 refine Zm ?_
 refine Zs ?_
 refine Zs ?_
 refine Zpt ?_
 refine Zm ?_
 refine Zs ?_
 refine Zs ?_
 refine Zpt ?_
 refine Zm ?_
 refine Zm ?_
 refine Zm ?_
 refine Zv (.int .i64 1) (fun _ fr => x_max rfl (fr.ev rfl) rfl (r := 1) (by decide)) ?_
 refine Zv (.int .u32 1) (fun _ fr => x_convert Try.underlying3 Try.underlying32 rfl (fr.ev rfl) rfl) ?_
 refine Zv (.int .u32 (addr % 1)) (fun _ fr => x_rem rfl (fr.ev rfl) (fr.ev rfl) (by decide) (rem_nn (by omega))) ?_
 refine Zv _ (fun _ fr => x_eql rfl (fr.ev rfl) rfl rfl) ?_
 refine Zpt ?_
 refine Za ?_
 refine Znn ?_
 refine Zrt ?_
 refine Zre rfl [_] ⟨rfl, trivial⟩ ?_
 exact ⟨_, rfl, rfl, rfl⟩
set_option maxRecDepth 100000 in
set_option maxHeartbeats 4000000 in
theorem rcright_2 (addr : Int) (ha : 0 ≤ addr ∧ addr < 4294967296) (w : World) : Calls Try.prog 57 #[.int .u32 addr, .int .i64 2] w (Ret fun v w' => v = .bool (decide (addr % 2 = 0)) ∧ w' = w) := by
 refine Zen 23 Try.func57 ?_
 refine Zsr ?_
 refine Za ?_
 refine Znn ?_
 refine Zsr ?_
 refine Zm ?_
 refine Zv (.bool false) (fun _ fr => x_eql rfl (fr.ev rfl) rfl rfl) ?_
 refine Zm ?_
 refine Zm ?_
 refine Zv (.bool true) (fun _ fr => x_eql rfl (fr.ev rfl) rfl rfl) ?_
 refine Zpf ?_
 refine Zm ?_
 refine Zs ?_
 refine Zs ?_
 refine Zpt ?_
 refine Zm ?_
 refine Zm ?_
 refine Zm ?_
 refine Zv (.int .i64 2) (fun _ fr => x_max rfl (fr.ev rfl) rfl (r := 2) (by decide)) ?_
 refine Zv (.int .u32 2) (fun _ fr => x_convert Try.underlying3 Try.underlying32 rfl (fr.ev rfl) rfl) ?_
 refine Zv (.int .u32 (addr % 2)) (fun _ fr => x_rem rfl (fr.ev rfl) (fr.ev rfl) (by decide) (rem_nn (by omega))) ?_
 refine Zv _ (fun _ fr => x_eql rfl (fr.ev rfl) rfl rfl) ?_
 refine Zpt ?_
 refine Za ?_
 refine Znn ?_
 refine Zrt ?_
 refine Zre rfl [_] ⟨rfl, trivial⟩ ?_
 exact ⟨_, rfl, rfl, rfl⟩
set_option maxRecDepth 100000 in
set_option maxHeartbeats 4000000 in
theorem rcright_4 (addr : Int) (ha : 0 ≤ addr ∧ addr < 4294967296) (w : World) : Calls Try.prog 57 #[.int .u32 addr, .int .i64 4] w (Ret fun v w' => v = .bool (decide (addr % 4 = 0)) ∧ w' = w) := by
 refine Zen 23 Try.func57 ?_
 refine Zsr ?_
 refine Za ?_
 refine Znn ?_
 refine Zsr ?_
 refine Zm ?_
 refine Zv (.bool false) (fun _ fr => x_eql rfl (fr.ev rfl) rfl rfl) ?_
 refine Zm ?_
 refine Zm ?_
 refine Zv (.bool false) (fun _ fr => x_eql rfl (fr.ev rfl) rfl rfl) ?_
 refine Zpf ?_
 refine Zm ?_
 refine Zm ?_
 refine Zv (.bool true) (fun _ fr => x_eql rfl (fr.ev rfl) rfl rfl) ?_
 refine Zpf ?_
 refine Zm ?_
 refine Zm ?_
 refine Zm ?_
 refine Zv (.int .i64 4) (fun _ fr => x_max rfl (fr.ev rfl) rfl (r := 4) (by decide)) ?_
 refine Zv (.int .u32 4) (fun _ fr => x_convert Try.underlying3 Try.underlying32 rfl (fr.ev rfl) rfl) ?_
 refine Zv (.int .u32 (addr % 4)) (fun _ fr => x_rem rfl (fr.ev rfl) (fr.ev rfl) (by decide) (rem_nn (by omega))) ?_
 refine Zv _ (fun _ fr => x_eql rfl (fr.ev rfl) rfl rfl) ?_
 refine Zpt ?_
 refine Za ?_
 refine Znn ?_
 refine Zrt ?_
 refine Zre rfl [_] ⟨rfl, trivial⟩ ?_
 exact ⟨_, rfl, rfl, rfl⟩
theorem rcright_c (addr width : Int) (ha : 0 ≤ addr ∧ addr < 4294967296) (w : World) : Calls Try.prog 57 #[.int .u32 addr, .int .i64 width] w (Ret fun v w' => v = .bool (rightA addr width) ∧ w' = w) := by
  by_cases h1 : width = 1
  · subst h1
    refine (rcright_1 addr ha w).mono ?_
    rintro e w' ⟨v, rfl, rfl, rfl⟩
    exact ⟨_, rfl, by simp [rightA], rfl⟩
  by_cases h2 : width = 2
  · subst h2
    refine (rcright_2 addr ha w).mono ?_
    rintro e w' ⟨v, rfl, rfl, rfl⟩
    exact ⟨_, rfl, by simp [rightA], rfl⟩
  by_cases h4 : width = 4
  · subst h4
    refine (rcright_4 addr ha w).mono ?_
    rintro e w' ⟨v, rfl, rfl, rfl⟩
    exact ⟨_, rfl, by simp [rightA], rfl⟩
  refine (rcright_no addr ha width h1 h2 h4 w).mono ?_
  rintro e w' ⟨v, rfl, rfl, rfl⟩
  exact ⟨_, rfl, by simp [rightA, h1, h2, h4], rfl⟩
def zv4 : Value := .agg (#[.int .i64 0, .int .i64 0, .int .i64 0, .slice none 0 0, .bool false, .int .u32 0, .bool false, .bool false, .int .u32 0, .int .i64 0, .int .u8 0, .int .u8 0, .int .u8 0, .int .u8 0, .int .u8 0, .int .u8 0, .int .u8 0, .int .u8 0, .int .u8 0, .int .u8 0, .int .u8 0, .int .u8 0, .int .u8 0, .int .u8 0, .int .u8 0, .int .u8 0])
set_option maxRecDepth 100000 in
set_option maxHeartbeats 4000000 in
theorem rcwithout_c (num : Int) {w : World} {id : Int} {n : Nat} {ways : Int} {A : Option Addr} {cap : Nat} {L : List Ln} {ak : Bool} {al : Int} {aw gv : Bool} {gx : Ln} (hV : View lnE w A cap L) (hn : 0 < n ∧ n ≤ 64) (hl : L.length ≤ 100000)  : Calls Try.prog 66 #[.agg (rcE.arr (RC.mk id ((n : Nat) : Int) ways A L.length cap (ak) al (aw) (gv) gx)), .int .u32 num] w (Ret fun v w' => ∃ A' cap', v = .agg (rcE.arr (RC.mk id n ways A' (dropL L num).length cap' ak al aw gv gx)) ∧ View lnE w' A' cap' (dropL L num) ∧ (∀ g, inA A' g → w.heap.size ≤ g) ∧ New w w') := by
 have hVl := hV.len
 unfold maxLen at hVl
 have hF := Only.refl (fun _ => False) w
 refine Zen 33 Try.func66 ?_
 refine Zsr ?_
 refine Znb (cs := rcE.arr (RC.mk id ((n : Nat) : Int) ways A L.length cap (ak) al (aw) (gv) gx)) fun b1 w2 hN3 B4 hb5 => ?_
 have g_b1 := Nat.le_trans hF.size hb5
 refine Zna (z := zv4) (cs := rcE.arr rc0) (by kernel_rfl) fun b6 w7 hN8 B9 hb10 => ?_
 have ne_b1_b6 : NE b1 b6 := NE.mk (Nat.lt_of_lt_of_le B4.lt hb10)
 replace hF := hF.trNew hN3
 have g_b6 := Nat.le_trans hF.size hb10
 refine Znn ?_
 refine Zsr ?_
 refine Za ?_
 refine Znn ?_
 refine Zsq ?_
 refine Zsr ?_
 refine Za ?_
 refine Znn ?_
 refine Zbl ?_
 intro a fr
 replace hV := (hV.new hN3).new hN8
 replace B4 := B4.new hN8
 replace hF := hF.trNew hN8
 refine fx_loop (fun nM a wL => ∃ k : Nat, ∃ Sx : Option Addr, ∃ sc : Nat, ∃ os : List Ln, nM = L.length - k ∧ Fr (33, []) [(1, .int .u32 num), (2, .pointer (some ⟨b1, 0, none⟩)), (4, .pointer (some ⟨b6, 0, none⟩)), (5, .slice Sx os.length sc), (6, .int .i64 ((k : Nat) : Int))] a ∧ Only (fun _ => False) w wL ∧ View lnE wL A cap L ∧ Blk wL b1 42 (rcE.arr (RC.mk id ((n : Nat) : Int) ways A L.length cap (ak) al (aw) (gv) gx)) ∧ Blk wL b6 42 (rcE.arr rc0) ∧ Own lnE wL Sx sc os ∧ k ≤ L.length ∧ os = (L.take k).filter (fun x => !isNum num x) ∧ os.length ≤ k ∧ (Apart2 A Sx) ∧ (Apart Sx b1) ∧ (Apart Sx b6) ∧ (∀ g, inA Sx g → (fun _ => False) g ∨ w.heap.size ≤ g)) (n0 := _) ⟨0, none, 0, [], rfl, fr.sub ⟨rfl, rfl, rfl, rfl, rfl, trivial⟩, hF, hV, B4, B9, Own.nil, by omega, rfl, Nat.le_refl _, (fun k _ h => apart_none k h), (apart_none b1), (apart_none b6), gA_none⟩ ?_
 clear fr a
 rintro n12 a w11 ⟨k, Sx, sc, os, rfl, fr, hF, hV, B4, B9, Oo, hk, hos, hok, ap2_A_Sx, ap_Sx_b1, ap_Sx_b6, gA_Sx⟩
 revert a
 refine Zsq ?_
 refine Zsr ?_
 refine Zm ?_
 refine Zf fo42_3 ?_
 refine Zd (v := .slice A L.length cap) pl40 (B4.cell 3 rfl) ?_
 refine Zv _ (fun _ fr => x_len Try.underlying40 rfl (fr.ev rfl)) ?_
 refine Zv _ (fun _ fr => x_lss rfl (fr.ev rfl) (fr.ev rfl) rfl) ?_
 refine Znn ?_
 refine Zcd (fun hc13 => ?_) (fun hc13 => ?_)
 ·have hc13 := of_decide_eq_true hc13
  refine Zsk ?_
  refine Znx ?_
  refine Zsq ?_
  refine Zbl ?_
  refine Zsr ?_
  refine Zf fo42_3 ?_
  refine Zd (v := .slice A L.length cap) pl40 (B4.cell 3 rfl) ?_
  refine Zm ?_
  obtain ⟨g14, o15, hA16⟩ := (hV).some_ (by omega)
  refine Zv (.pointer (some ⟨g14, o15 + k * 18, none⟩)) (fun _ fr => x_indexV Try.underlying40 sz39 rfl (fr.ev rfl) hA16 (fr.ev rfl) (by omega) rfl) ?_
  refine Zf fo39_0 ?_
  refine Zd (v := .int .u32 ((L.getD k ln0).num)) pl32 (range_cell ((hV).elem hA16 k ln0 (by omega)) 0 rfl rfl) ?_
  refine Zm ?_
  refine Zv _ (fun _ fr => x_neq rfl (fr.ev rfl) (fr.ev rfl) rfl) ?_
  refine Znn ?_
  refine Zcd (fun hc17 => ?_) (fun hc17 => ?_)
  ·have hc17 := of_decide_eq_true hc17
   refine Zrg ?_
   refine Zm ?_
   refine Zf fo42_3 ?_
   refine Zd (v := .slice A L.length cap) pl40 (B4.cell 3 rfl) ?_
   refine Zm ?_
   refine Zv (.pointer (some ⟨g14, o15 + k * 18, none⟩)) (fun _ fr => x_indexV Try.underlying40 sz39 rfl (fr.ev rfl) hA16 (fr.ev rfl) (by omega) rfl) ?_
   refine ZE lnE ag39 ((hV).elem hA16 k ln0 (by omega)) ?_
   intro a fr
   refine fx_build1 (E := lnE) (p := (L.getD k ln0)) elLn (by decide) fr rfl rfl (by decide) rfl (fr.ev rfl) ?_
   clear fr a
   intro A18 w19 hN20 O21 hA22
   intro a fr
   replace Oo := Oo.new hN20
   refine fx_append (E := lnE) (l := os) (l' := [(L.getD k ln0)]) elLn fr rfl rfl (by decide) rfl (fr.ev rfl) (fr.ev rfl) (by first | rfl | (simp; done) | (simp; omega)) (by first | rfl | (simp; done) | (simp; omega)) Oo O21.view (by first | omega | (simp only [List.length_append, List.length_cons, List.length_nil, List.nil_append]; omega) | (simp; omega)) (by first | (unfold maxLen; done) | (unfold maxLen; first | omega | (simp; done) | (simp; omega))) ?_
   clear fr a
   intro A23 cap24 w25 O26 hO27 mv28
   replace hV := hV.new hN20
   have ap2_A23_A : Apart2 A23 A := moved_apart2 mv28 ap2_A_Sx.symm fun _ hg => hV.lt hg
   replace B4 := B4.new hN20
   have ap_A23_b1 : Apart A23 b1 := moved_apart mv28 ap_Sx_b1 B4.lt
   replace B9 := B9.new hN20
   have ap_A23_b6 : Apart A23 b6 := moved_apart mv28 ap_Sx_b6 B9.lt
   replace hF := hF.trNew hN20
   have gA_A23 := gA_moved hF mv28 gA_Sx
   clear Oo
   refine Za ?_
   refine Znl ?_
   refine Zb ?_
   refine Znx ?_
   refine Zrg ?_
   refine Zm ?_
   refine Zv _ (fun _ fr => x_add rfl (fr.ev rfl) rfl (i64w (r := ((k + 1 : Nat) : Int)) (by omega) (by omega))) ?_
   refine Za ?_
   intro a fr
   refine wpList_nil ?_
   refine fx_next ?_
   replace hV := hV.only hO27 (fun g h1 h2 => ap2_A_Sx g h1 h2)
   replace B4 := B4.only hO27 ap_Sx_b1
   replace B9 := B9.only hO27 ap_Sx_b6
   replace hF := hF.locA hO27 gA_Sx
   exact ⟨_, by omega, (k + 1), A23, cap24, (os ++ ([(L.getD k ln0)])), rfl, fr.sub ⟨rfl, rfl, rfl, rfl, rfl, trivial⟩, hF, hV, B4, B9, O26, by omega, (by rw [selF_yes (p := fun x => !isNum num x) (by omega) (by simpa [isNum] using hc17), hos]), (by simp; omega), ap2_A23_A.symm, ap_A23_b1, ap_A23_b6, gA_A23⟩
  ·have hc17 := of_decide_eq_false hc17
   refine Zsk ?_
   refine Zb ?_
   refine Znx ?_
   refine Zrg ?_
   refine Zm ?_
   refine Zv _ (fun _ fr => x_add rfl (fr.ev rfl) rfl (i64w (r := ((k + 1 : Nat) : Int)) (by omega) (by omega))) ?_
   refine Za ?_
   intro a fr
   refine wpList_nil ?_
   refine fx_next ?_
   exact ⟨_, by omega, (k + 1), Sx, sc, os, rfl, fr.sub ⟨rfl, rfl, rfl, rfl, rfl, trivial⟩, hF, hV, B4, B9, Oo, by omega, (by rw [selF_no (p := fun x => !isNum num x) (by omega) (by simpa [isNum] using hc17), hos]), by omega, ap2_A_Sx, ap_Sx_b1, ap_Sx_b6, gA_Sx⟩
 ·have hc13 := of_decide_eq_false hc13
  refine Zex ?_
  refine Zxt ?_
  refine Zxt ?_
  refine Zxx ?_
  refine Znx ?_
  refine Zsr ?_
  refine Zm ?_
  refine Zf fo42_3 ?_
  refine Zs1 (cs' := rcE.arr (RC.mk id ((n : Nat) : Int) ways Sx os.length sc (ak) al (aw) (gv) gx)) sz40 B4 (by rw [rcE.size]; decide) (rc_set3 _ _ _ _) fun w29 hO30 hBq => ?_
  replace B4 := hBq
  clear hBq
  refine Znn ?_
  refine Zsr ?_
  refine ZE rcE ag42 (B4.rangeE rcE) ?_
  replace B9 := B9.only hO30 ne_b1_b6.symm
  refine ZsS sz42 (rcE.all _) B9 (rcE.size _) (rcE.size _) fun w31 hO32 hBq => ?_
  replace B9 := hBq
  clear hBq
  refine Znn ?_
  refine Zrt ?_
  refine Zre rfl [_] ⟨⟨_, rfl, loadV_E (E := rcE) ag42 rfl (B9.rangeE rcE)⟩, trivial⟩ ?_
  obtain rfl : k = L.length := by omega
  rw [List.take_of_length_le (Nat.le_refl _)] at hos
  have hos : os = dropL L num := hos
  subst hos
  replace Oo := (Oo.only hO30 (Apart.ne1 ap_Sx_b1)).only hO32 (Apart.ne1 ap_Sx_b6)
  replace hF := (hF.loc hO30 (.inr g_b1)).loc hO32 (.inr g_b6)
  exact ⟨_, rfl, Sx, sc, rfl, Oo.view, fun g hg => (gA_Sx g hg).resolve_left (fun h => h), hF⟩
set_option maxRecDepth 100000 in
set_option maxHeartbeats 4000000 in
theorem rcwith_c (x : Ln) {w : World} {id : Int} {n : Nat} {ways : Int} {A : Option Addr} {cap : Nat} {L : List Ln} {ak : Bool} {al : Int} {aw gv : Bool} {gx : Ln} (hV : View lnE w A cap L) (hn : 0 < n ∧ n ≤ 64) (hl : L.length ≤ 10000)  : Calls Try.prog 59 #[.agg (rcE.arr (RC.mk id ((n : Nat) : Int) ways A L.length cap (ak) al (aw) (gv) gx)), .agg (lnE.arr x)] w (Ret fun v w' => ∃ A' cap', v = .agg (rcE.arr (RC.mk id n ways A' (withF n L x).length cap' ak al aw gv gx)) ∧ View lnE w' A' cap' (withF n L x) ∧ (∀ g, inA A' g → w.heap.size ≤ g) ∧ New w w') := by
 have hVl := hV.len
 unfold maxLen at hVl
 have hxn := x.hn
 have hF := Only.refl (fun _ => False) w
 refine Zen 71 Try.func59 ?_
 refine Zsr ?_
 refine Znb (cs := rcE.arr (RC.mk id ((n : Nat) : Int) ways A L.length cap (ak) al (aw) (gv) gx)) fun b1 w2 hN3 B4 hb5 => ?_
 have g_b1 := Nat.le_trans hF.size hb5
 refine Znb (cs := lnE.arr x) fun b6 w7 hN8 B9 hb10 => ?_
 refine Zna (z := zv4) (cs := rcE.arr rc0) (by kernel_rfl) fun b11 w12 hN13 B14 hb15 => ?_
 replace B4 := B4.new hN8
 have ne_b1_b11 : NE b1 b11 := NE.mk (Nat.lt_of_lt_of_le B4.lt hb15)
 replace hF := (hF.trNew hN3).trNew hN8
 have g_b11 := Nat.le_trans hF.size hb15
 refine Znn ?_
 refine Zsr ?_
 refine Za ?_
 refine Znn ?_
 refine Zsr ?_
 refine Za ?_
 refine Znn ?_
 refine Zsr ?_
 replace B4 := B4.new hN13
 refine ZE rcE ag42 (B4.rangeE rcE) ?_
 refine Zf fo39_0 ?_
 replace B9 := B9.new hN13
 refine Zd (v := .int .u32 x.num) pl32 (B9.cell 0 rfl) ?_
 replace hV := ((hV.new hN3).new hN8).new hN13
 refine Zk cf58 (rcfind_c x.num (hV)) ?_
 rintro v w16 ⟨rfl, hN17⟩
 refine Zv _ (fun _ fr => x_geq rfl (fr.ev rfl) rfl rfl) ?_
 refine Za ?_
 refine Znn ?_
 refine Zsq ?_
 refine Zsq ?_
 intro a fr
 generalize hth : decide (0 ≤ fndI L x.num) = th at fr
 revert a
 refine Zrg ?_
 refine Za ?_
 refine Znn ?_
 refine Zbl ?_
 intro a fr
 replace hF := (hF.trNew hN13).trNew hN17
 replace hV := hV.new hN17
 replace B4 := B4.new hN17
 replace B9 := B9.new hN17
 replace B14 := B14.new hN17
 refine fx_loop (fun nM a wL => ∃ k : Nat, ∃ Sx : Option Addr, ∃ sc : Nat, ∃ os : List Ln, ∃ pt : Bool, nM = L.length - k ∧ Fr (71, []) [(2, .pointer (some ⟨b1, 0, none⟩)), (3, .pointer (some ⟨b6, 0, none⟩)), (4, .pointer (some ⟨b11, 0, none⟩)), (7, .bool (th)), (5, .slice Sx os.length sc), (6, .bool (pt)), (8, .int .i64 ((k : Nat) : Int))] a ∧ Only (fun _ => False) w wL ∧ View lnE wL A cap L ∧ Blk wL b1 42 (rcE.arr (RC.mk id ((n : Nat) : Int) ways A L.length cap (ak) al (aw) (gv) gx)) ∧ Blk wL b6 39 (lnE.arr x) ∧ Blk wL b11 42 (rcE.arr rc0) ∧ Own lnE wL Sx sc os ∧ k ≤ L.length ∧ os ++ wl n x th (L.drop k) pt = wl n x th L false ∧ os.length ≤ 2 * k ∧ (Apart2 A Sx) ∧ (Apart Sx b1) ∧ (Apart Sx b6) ∧ (Apart Sx b11) ∧ (∀ g, inA Sx g → (fun _ => False) g ∨ w.heap.size ≤ g)) (n0 := _) ⟨0, none, 0, [], false, rfl, fr.sub ⟨rfl, rfl, rfl, rfl, rfl, rfl, rfl, trivial⟩, hF, hV, B4, B9, B14, Own.nil, by omega, rfl, Nat.le_refl _, (fun k _ h => apart_none k h), (apart_none b1), (apart_none b6), (apart_none b11), gA_none⟩ ?_
 clear fr a
 rintro n19 a w18 ⟨k, Sx, sc, os, pt, rfl, fr, hF, hV, B4, B9, B14, Oo, hk, hos, hok, ap2_A_Sx, ap_Sx_b1, ap_Sx_b6, ap_Sx_b11, gA_Sx⟩
 revert a
 have hdk := drop_at (M := L) (k := k)
 have hxk := (L.getD k ln0).hn
 have hxn := x.hn
 refine Zsq ?_
 refine Zsr ?_
 refine Zm ?_
 refine Zf fo42_3 ?_
 refine Zd (v := .slice A L.length cap) pl40 (B4.cell 3 rfl) ?_
 refine Zv _ (fun _ fr => x_len Try.underlying40 rfl (fr.ev rfl)) ?_
 refine Zv _ (fun _ fr => x_lss rfl (fr.ev rfl) (fr.ev rfl) rfl) ?_
 refine Znn ?_
 refine Zcd (fun hc20 => ?_) (fun hc20 => ?_)
 ·have hc20 := of_decide_eq_true hc20
  refine Zsk ?_
  refine Znx ?_
  refine Zsq ?_
  refine Zbl ?_
  refine Zsq ?_
  replace hdk := hdk (by omega)
  refine Zrg ?_
  refine Zf fo42_3 ?_
  refine Zd (v := .slice A L.length cap) pl40 (B4.cell 3 rfl) ?_
  refine Zm ?_
  obtain ⟨g21, o22, hA23⟩ := (hV).some_ (by omega)
  refine Zv (.pointer (some ⟨g21, o22 + k * 18, none⟩)) (fun _ fr => x_indexV Try.underlying40 sz39 rfl (fr.ev rfl) hA23 (fr.ev rfl) (by omega) rfl) ?_
  refine ZE lnE ag39 ((hV).elem hA23 k ln0 (by omega)) ?_
  refine Zna (z := zv1) (cs := lnE.arr ln0) (by kernel_rfl) fun b24 w25 hN26 B27 hb28 => ?_
  have ap_A_b24 : Apart A b24 := hV.apart hb28
  have ne_b1_b24 : NE b1 b24 := NE.mk (Nat.lt_of_lt_of_le B4.lt hb28)
  have ne_b6_b24 : NE b6 b24 := NE.mk (Nat.lt_of_lt_of_le B9.lt hb28)
  have ne_b11_b24 : NE b11 b24 := NE.mk (Nat.lt_of_lt_of_le B14.lt hb28)
  have ap_Sx_b24 : Apart Sx b24 := Oo.apart hb28
  have g_b24 := Nat.le_trans hF.size hb28
  refine ZsS sz39 (lnE.all _) B27 (lnE.size _) (lnE.size _) fun w29 hO30 hBq => ?_
  replace B27 := hBq
  clear hBq
  refine Znn ?_
  refine Zsq ?_
  refine Zsr ?_
  refine Zf fo39_0 ?_
  refine Zd (v := .int .u32 ((L.getD k ln0).num)) pl32 (B27.cell 0 rfl) ?_
  refine Zf fo39_0 ?_
  replace B9 := (B9.new hN26).only hO30 ne_b6_b24
  refine Zd (v := .int .u32 x.num) pl32 (B9.cell 0 rfl) ?_
  refine Zv _ (fun _ fr => x_eql rfl (fr.ev rfl) (fr.ev rfl) rfl) ?_
  refine Znn ?_
  refine Zcd (fun hc31 => ?_) (fun hc31 => ?_)
  ·have hc31 := of_decide_eq_true hc31
   refine Zrg ?_
   refine ZE lnE ag39 (B9.rangeE lnE) ?_
   refine ZsS sz39 (lnE.all _) B27 (lnE.size _) (lnE.size _) fun w32 hO33 hBq => ?_
   replace B27 := hBq
   clear hBq
   refine Znn ?_
   refine Zsq ?_
   refine Zsq ?_
   refine Zhd (n := 17) (fun w => Blk w b1 42 (rcE.arr (RC.mk id ((n : Nat) : Int) ways A L.length cap (ak) al (aw) (gv) gx)) ∧ Blk w b6 39 (lnE.arr x) ∧ Blk w b24 39 (lnE.arr x) ∧ True) ?_
   intro w34 hN35
   replace B4 := (((B4.new hN26).only hO30 ne_b1_b24).only hO33 ne_b1_b24).new hN35
   replace B9 := (B9.only hO33 ne_b6_b24).new hN35
   replace B27 := B27.new hN35
   have hS9 := And.intro B4 (And.intro B9 (And.intro B27 trivial))
   refine Zhm 0 hS9 ?_
   refine Zht 1 rfl (.bool (!(th))) hS9 (fun _ fr _ _ => x_not rfl (fr.ev rfl) rfl) ?_
   refine Zhm 2 hS9 ?_
   refine Zhy 3 rfl (!(th)) (.bool (pt)) hS9 (fun _ fr _ _ _ => x_move rfl (fr.ev rfl)) ?_
   refine Zhy 4 rfl (!(th)) (.bool (!(pt))) hS9 (fun _ fr hg _ _ => x_not rfl ((fr.ev rfl).trans (onlyIf_t hg)) rfl) ?_
   refine Zht 5 rfl (.bool ((!(th)) && (!(pt)))) hS9 (fun _ fr _ _ => x_pick_and rfl (fr.ev rfl) (fun hb => ((fr.ev rfl)).trans (onlyIf_t (by simp_all))) (fun _ => rfl) rfl) ?_
   refine Zhm 6 hS9 ?_
   refine Zhy 7 rfl ((!(th)) && (!(pt))) (.agg (rcE.arr (RC.mk id ((n : Nat) : Int) ways A L.length cap (ak) al (aw) (gv) gx))) hS9 (fun _ fr _ _ ⟨B4, _⟩ => x_loadE (E := rcE) ag42 rfl rfl (fr.ev rfl) (B4.rangeE rcE)) ?_
   refine Zhy 8 rfl ((!(th)) && (!(pt))) (.pointer (some ⟨b24, 0, none⟩)) hS9 (fun _ fr _ _ _ => x_fieldAddr fo39_0 rfl (fr.ev rfl) rfl) ?_
   refine Zhy 9 rfl ((!(th)) && (!(pt))) (.int .u32 x.num) hS9 (fun _ fr hg _ ⟨_, _, B27, _⟩ => x_load1 pl32 rfl ((fr.ev rfl).trans (onlyIf_t hg)) (B27.cell 0 rfl)) ?_
   refine Zhy 11 rfl ((!(th)) && (!(pt))) (.agg (rcE.arr (RC.mk id ((n : Nat) : Int) ways A L.length cap (ak) al (aw) (gv) gx))) hS9 (fun _ fr _ _ ⟨B4, _⟩ => x_loadE (E := rcE) ag42 rfl rfl (fr.ev rfl) (B4.rangeE rcE)) ?_
   refine Zhy 12 rfl ((!(th)) && (!(pt))) (.pointer (some ⟨b6, 0, none⟩)) hS9 (fun _ fr _ _ _ => x_fieldAddr fo39_0 rfl (fr.ev rfl) rfl) ?_
   refine Zhy 13 rfl ((!(th)) && (!(pt))) (.int .u32 x.num) hS9 (fun _ fr hg _ ⟨_, B9, _⟩ => x_load1 pl32 rfl ((fr.ev rfl).trans (onlyIf_t hg)) (B9.cell 0 rfl)) ?_
   refine Zh1 10 ?_
   rcases Bool.eq_false_or_eq_true ((!(th)) && (!(pt))) with hc36 | hc36
   ·intro a fr
    rw [hc36] at fr
    revert a
    have hc36s := hc36
    try simp at hc36s
    refine Zkx (fun _ fr => x_call (vs := [.agg (rcE.arr (RC.mk id ((n : Nat) : Int) ways A L.length cap (ak) al (aw) (gv) gx)), .int .u32 x.num]) rfl rfl ⟨((fr.ev rfl).trans (onlyIf_t rfl)), ((fr.ev rfl).trans (onlyIf_t rfl)), trivial⟩ Try.func61 nm61 rfl) (rcset_c x.num (by omega) (by omega) _) ?_
    rintro v w37 ⟨rfl, hN38⟩
    replace B4 := B4.new hN38
    replace B9 := B9.new hN38
    replace B27 := B27.new hN38
    refine Zhb ⟨B4, B9, B27, trivial⟩ ?_
    refine Zh1 14 ?_
    refine Zkx (fun _ fr => x_call (vs := [.agg (rcE.arr (RC.mk id ((n : Nat) : Int) ways A L.length cap (ak) al (aw) (gv) gx)), .int .u32 x.num]) rfl rfl ⟨((fr.ev rfl).trans (onlyIf_t rfl)), ((fr.ev rfl).trans (onlyIf_t rfl)), trivial⟩ Try.func61 nm61 rfl) (rcset_c x.num (by omega) (by omega) _) ?_
    rintro v w39 ⟨rfl, hN40⟩
    replace B4 := B4.new hN40
    replace B9 := B9.new hN40
    replace B27 := B27.new hN40
    refine Zhb ⟨B4, B9, B27, trivial⟩ ?_
    have hS9 := And.intro B4 (And.intro B9 (And.intro B27 trivial))
    refine Zht 15 rfl (.bool false) hS9 (fun _ fr _ _ => x_gtr rfl (fr.ev rfl) (fr.ev rfl) (by simp)) ?_
    refine Zht 16 rfl (.bool false) hS9 (fun _ fr _ _ => x_pick_t rfl (fr.ev rfl) (fr.ev rfl)) ?_
    refine Zhn ?_
    refine Znx ?_
    refine Zcf ?_
    refine Zsk ?_
    refine Znx ?_
    refine Zrg ?_
    refine Zm ?_
    refine ZE lnE ag39 (B27.rangeE lnE) ?_
    intro a fr
    refine fx_build1 (E := lnE) (p := x) elLn (by decide) fr rfl rfl (by decide) rfl (fr.ev rfl) ?_
    clear fr a
    intro A41 w42 hN43 O44 hA45
    intro a fr
    replace Oo := ((((((Oo.new hN26).only hO30 (Apart.ne1 ap_Sx_b24)).only hO33 (Apart.ne1 ap_Sx_b24)).new hN35).new hN38).new hN40).new hN43
    refine fx_append (E := lnE) (l := os) (l' := [x]) elLn fr rfl rfl (by decide) rfl (fr.ev rfl) (fr.ev rfl) (by first | rfl | (simp; done) | (simp; omega)) (by first | rfl | (simp; done) | (simp; omega)) Oo O44.view (by first | omega | (simp only [List.length_append, List.length_cons, List.length_nil, List.nil_append]; omega) | (simp; omega)) (by first | (unfold maxLen; done) | (unfold maxLen; first | omega | (simp; done) | (simp; omega))) ?_
    clear fr a
    intro A46 cap47 w48 O49 hO50 mv51
    replace hV := ((((((hV.new hN26).only hO30 (Apart.ne1 ap_A_b24)).only hO33 (Apart.ne1 ap_A_b24)).new hN35).new hN38).new hN40).new hN43
    have ap2_A46_A : Apart2 A46 A := moved_apart2 mv51 ap2_A_Sx.symm fun _ hg => hV.lt hg
    replace B4 := B4.new hN43
    have ap_A46_b1 : Apart A46 b1 := moved_apart mv51 ap_Sx_b1 B4.lt
    replace B9 := B9.new hN43
    have ap_A46_b6 : Apart A46 b6 := moved_apart mv51 ap_Sx_b6 B9.lt
    replace B14 := ((((((B14.new hN26).only hO30 ne_b11_b24).only hO33 ne_b11_b24).new hN35).new hN38).new hN40).new hN43
    have ap_A46_b11 : Apart A46 b11 := moved_apart mv51 ap_Sx_b11 B14.lt
    replace hF := ((((((hF.trNew hN26).loc hO30 (.inr g_b24)).loc hO33 (.inr g_b24)).trNew hN35).trNew hN38).trNew hN40).trNew hN43
    have gA_A46 := gA_moved hF mv51 gA_Sx
    clear Oo
    refine Za ?_
    refine Znl ?_
    refine Zb ?_
    refine Znx ?_
    refine Zrg ?_
    refine Zm ?_
    refine Zv _ (fun _ fr => x_add rfl (fr.ev rfl) rfl (i64w (r := ((k + 1 : Nat) : Int)) (by omega) (by omega))) ?_
    refine Za ?_
    intro a fr
    refine wpList_nil ?_
    refine fx_next ?_
    have hstep : os ++ wl n x th (L.drop k) pt = os ++ ([x]) ++ wl n x th (L.drop (k + 1)) (pt) := by rw [hdk]; simp only [wl, hc20, if_pos hc31, hc36, decide_eq_false (show ¬ si n x.num < si n (L.getD k ln0).num by rw [hc31]; exact Nat.lt_irrefl _), Bool.true_and, Bool.and_true, Bool.false_and, Bool.and_false, Bool.or_true, Bool.or_false, Bool.false_eq_true, if_true, if_false, List.nil_append, List.append_assoc, List.cons_append]
    replace hV := hV.only hO50 (fun g h1 h2 => ap2_A_Sx g h1 h2)
    replace B4 := B4.only hO50 ap_Sx_b1
    replace B9 := B9.only hO50 ap_Sx_b6
    replace B14 := B14.only hO50 ap_Sx_b11
    replace hF := hF.locA hO50 gA_Sx
    exact ⟨_, by omega, (k + 1), A46, cap47, (os ++ ([x])), (pt), rfl, fr.sub ⟨rfl, rfl, rfl, rfl, rfl, rfl, rfl, trivial⟩, hF, hV, B4, B9, B14, O49, by omega, (by rw [← hstep]; exact hos), (by simp; omega), ap2_A46_A.symm, ap_A46_b1, ap_A46_b6, ap_A46_b11, gA_A46⟩
   ·intro a fr
    rw [hc36] at fr
    revert a
    have hc36s := hc36
    try simp at hc36s
    refine Zs ?_
    refine Zhb ⟨B4, B9, B27, trivial⟩ ?_
    have hS9 := And.intro B4 (And.intro B9 (And.intro B27 trivial))
    refine Zhs 14 hS9 ?_
    refine Zhs 15 hS9 ?_
    refine Zht 16 rfl (.bool false) hS9 (fun _ fr _ _ => x_pick_f rfl (fr.ev rfl) rfl) ?_
    refine Zhn ?_
    refine Znx ?_
    refine Zcf ?_
    refine Zsk ?_
    refine Znx ?_
    refine Zrg ?_
    refine Zm ?_
    refine ZE lnE ag39 (B27.rangeE lnE) ?_
    intro a fr
    refine fx_build1 (E := lnE) (p := x) elLn (by decide) fr rfl rfl (by decide) rfl (fr.ev rfl) ?_
    clear fr a
    intro A52 w53 hN54 O55 hA56
    intro a fr
    replace Oo := ((((Oo.new hN26).only hO30 (Apart.ne1 ap_Sx_b24)).only hO33 (Apart.ne1 ap_Sx_b24)).new hN35).new hN54
    refine fx_append (E := lnE) (l := os) (l' := [x]) elLn fr rfl rfl (by decide) rfl (fr.ev rfl) (fr.ev rfl) (by first | rfl | (simp; done) | (simp; omega)) (by first | rfl | (simp; done) | (simp; omega)) Oo O55.view (by first | omega | (simp only [List.length_append, List.length_cons, List.length_nil, List.nil_append]; omega) | (simp; omega)) (by first | (unfold maxLen; done) | (unfold maxLen; first | omega | (simp; done) | (simp; omega))) ?_
    clear fr a
    intro A57 cap58 w59 O60 hO61 mv62
    replace hV := ((((hV.new hN26).only hO30 (Apart.ne1 ap_A_b24)).only hO33 (Apart.ne1 ap_A_b24)).new hN35).new hN54
    have ap2_A57_A : Apart2 A57 A := moved_apart2 mv62 ap2_A_Sx.symm fun _ hg => hV.lt hg
    replace B4 := B4.new hN54
    have ap_A57_b1 : Apart A57 b1 := moved_apart mv62 ap_Sx_b1 B4.lt
    replace B9 := B9.new hN54
    have ap_A57_b6 : Apart A57 b6 := moved_apart mv62 ap_Sx_b6 B9.lt
    replace B14 := ((((B14.new hN26).only hO30 ne_b11_b24).only hO33 ne_b11_b24).new hN35).new hN54
    have ap_A57_b11 : Apart A57 b11 := moved_apart mv62 ap_Sx_b11 B14.lt
    replace hF := ((((hF.trNew hN26).loc hO30 (.inr g_b24)).loc hO33 (.inr g_b24)).trNew hN35).trNew hN54
    have gA_A57 := gA_moved hF mv62 gA_Sx
    clear Oo
    refine Za ?_
    refine Znl ?_
    refine Zb ?_
    refine Znx ?_
    refine Zrg ?_
    refine Zm ?_
    refine Zv _ (fun _ fr => x_add rfl (fr.ev rfl) rfl (i64w (r := ((k + 1 : Nat) : Int)) (by omega) (by omega))) ?_
    refine Za ?_
    intro a fr
    refine wpList_nil ?_
    refine fx_next ?_
    have hstep : os ++ wl n x th (L.drop k) pt = os ++ ([x]) ++ wl n x th (L.drop (k + 1)) (pt) := by rw [hdk]; simp only [wl, hc20, if_pos hc31, hc36, decide_eq_false (show ¬ si n x.num < si n (L.getD k ln0).num by rw [hc31]; exact Nat.lt_irrefl _), Bool.true_and, Bool.and_true, Bool.false_and, Bool.and_false, Bool.or_true, Bool.or_false, Bool.false_eq_true, if_true, if_false, List.nil_append, List.append_assoc, List.cons_append]
    replace hV := hV.only hO61 (fun g h1 h2 => ap2_A_Sx g h1 h2)
    replace B4 := B4.only hO61 ap_Sx_b1
    replace B9 := B9.only hO61 ap_Sx_b6
    replace B14 := B14.only hO61 ap_Sx_b11
    replace hF := hF.locA hO61 gA_Sx
    exact ⟨_, by omega, (k + 1), A57, cap58, (os ++ ([x])), (pt), rfl, fr.sub ⟨rfl, rfl, rfl, rfl, rfl, rfl, rfl, trivial⟩, hF, hV, B4, B9, B14, O60, by omega, (by rw [← hstep]; exact hos), (by simp; omega), ap2_A57_A.symm, ap_A57_b1, ap_A57_b6, ap_A57_b11, gA_A57⟩
  ·have hc31 := of_decide_eq_false hc31
   refine Zsk ?_
   refine Znx ?_
   refine Zsq ?_
   refine Zsq ?_
   refine Zhd (n := 17) (fun w => Blk w b1 42 (rcE.arr (RC.mk id ((n : Nat) : Int) ways A L.length cap (ak) al (aw) (gv) gx)) ∧ Blk w b6 39 (lnE.arr x) ∧ Blk w b24 39 (lnE.arr (L.getD k ln0)) ∧ True) ?_
   intro w63 hN64
   replace B4 := ((B4.new hN26).only hO30 ne_b1_b24).new hN64
   replace B9 := B9.new hN64
   replace B27 := B27.new hN64
   have hS9 := And.intro B4 (And.intro B9 (And.intro B27 trivial))
   refine Zhm 0 hS9 ?_
   refine Zht 1 rfl (.bool (!(th))) hS9 (fun _ fr _ _ => x_not rfl (fr.ev rfl) rfl) ?_
   refine Zhm 2 hS9 ?_
   refine Zhy 3 rfl (!(th)) (.bool (pt)) hS9 (fun _ fr _ _ _ => x_move rfl (fr.ev rfl)) ?_
   refine Zhy 4 rfl (!(th)) (.bool (!(pt))) hS9 (fun _ fr hg _ _ => x_not rfl ((fr.ev rfl).trans (onlyIf_t hg)) rfl) ?_
   refine Zht 5 rfl (.bool ((!(th)) && (!(pt)))) hS9 (fun _ fr _ _ => x_pick_and rfl (fr.ev rfl) (fun hb => ((fr.ev rfl)).trans (onlyIf_t (by simp_all))) (fun _ => rfl) rfl) ?_
   refine Zhm 6 hS9 ?_
   refine Zhy 7 rfl ((!(th)) && (!(pt))) (.agg (rcE.arr (RC.mk id ((n : Nat) : Int) ways A L.length cap (ak) al (aw) (gv) gx))) hS9 (fun _ fr _ _ ⟨B4, _⟩ => x_loadE (E := rcE) ag42 rfl rfl (fr.ev rfl) (B4.rangeE rcE)) ?_
   refine Zhy 8 rfl ((!(th)) && (!(pt))) (.pointer (some ⟨b24, 0, none⟩)) hS9 (fun _ fr _ _ _ => x_fieldAddr fo39_0 rfl (fr.ev rfl) rfl) ?_
   refine Zhy 9 rfl ((!(th)) && (!(pt))) (.int .u32 ((L.getD k ln0).num)) hS9 (fun _ fr hg _ ⟨_, _, B27, _⟩ => x_load1 pl32 rfl ((fr.ev rfl).trans (onlyIf_t hg)) (B27.cell 0 rfl)) ?_
   refine Zhy 11 rfl ((!(th)) && (!(pt))) (.agg (rcE.arr (RC.mk id ((n : Nat) : Int) ways A L.length cap (ak) al (aw) (gv) gx))) hS9 (fun _ fr _ _ ⟨B4, _⟩ => x_loadE (E := rcE) ag42 rfl rfl (fr.ev rfl) (B4.rangeE rcE)) ?_
   refine Zhy 12 rfl ((!(th)) && (!(pt))) (.pointer (some ⟨b6, 0, none⟩)) hS9 (fun _ fr _ _ _ => x_fieldAddr fo39_0 rfl (fr.ev rfl) rfl) ?_
   refine Zhy 13 rfl ((!(th)) && (!(pt))) (.int .u32 x.num) hS9 (fun _ fr hg _ ⟨_, B9, _⟩ => x_load1 pl32 rfl ((fr.ev rfl).trans (onlyIf_t hg)) (B9.cell 0 rfl)) ?_
   refine Zh1 10 ?_
   rcases Bool.eq_false_or_eq_true ((!(th)) && (!(pt))) with hc65 | hc65
   ·intro a fr
    rw [hc65] at fr
    revert a
    have hc65s := hc65
    try simp at hc65s
    refine Zkx (fun _ fr => x_call (vs := [.agg (rcE.arr (RC.mk id ((n : Nat) : Int) ways A L.length cap (ak) al (aw) (gv) gx)), .int .u32 ((L.getD k ln0).num)]) rfl rfl ⟨((fr.ev rfl).trans (onlyIf_t rfl)), ((fr.ev rfl).trans (onlyIf_t rfl)), trivial⟩ Try.func61 nm61 rfl) (rcset_c ((L.getD k ln0).num) (by omega) (by omega) _) ?_
    rintro v w66 ⟨rfl, hN67⟩
    replace B4 := B4.new hN67
    replace B9 := B9.new hN67
    replace B27 := B27.new hN67
    refine Zhb ⟨B4, B9, B27, trivial⟩ ?_
    refine Zh1 14 ?_
    refine Zkx (fun _ fr => x_call (vs := [.agg (rcE.arr (RC.mk id ((n : Nat) : Int) ways A L.length cap (ak) al (aw) (gv) gx)), .int .u32 x.num]) rfl rfl ⟨((fr.ev rfl).trans (onlyIf_t rfl)), ((fr.ev rfl).trans (onlyIf_t rfl)), trivial⟩ Try.func61 nm61 rfl) (rcset_c x.num (by omega) (by omega) _) ?_
    rintro v w68 ⟨rfl, hN69⟩
    replace B4 := B4.new hN69
    replace B9 := B9.new hN69
    replace B27 := B27.new hN69
    refine Zhb ⟨B4, B9, B27, trivial⟩ ?_
    have hS9 := And.intro B4 (And.intro B9 (And.intro B27 trivial))
    refine Zht 15 rfl _ hS9 (fun _ fr _ _ => x_gtr rfl (fr.ev rfl) (fr.ev rfl) rfl) ?_
    refine Zht 16 rfl _ hS9 (fun _ fr _ _ => x_pick_t rfl (fr.ev rfl) (fr.ev rfl)) ?_
    refine Zhn ?_
    refine Znx ?_
    refine Zcd (fun hc70 => ?_) (fun hc70 => ?_)
    ·have hc70 := of_decide_eq_true hc70
     refine Zsr ?_
     refine Zm ?_
     refine ZE lnE ag39 (B9.rangeE lnE) ?_
     intro a fr
     refine fx_build1 (E := lnE) (p := x) elLn (by decide) fr rfl rfl (by decide) rfl (fr.ev rfl) ?_
     clear fr a
     intro A71 w72 hN73 O74 hA75
     intro a fr
     replace Oo := (((((Oo.new hN26).only hO30 (Apart.ne1 ap_Sx_b24)).new hN64).new hN67).new hN69).new hN73
     refine fx_append (E := lnE) (l := os) (l' := [x]) elLn fr rfl rfl (by decide) rfl (fr.ev rfl) (fr.ev rfl) (by first | rfl | (simp; done) | (simp; omega)) (by first | rfl | (simp; done) | (simp; omega)) Oo O74.view (by first | omega | (simp only [List.length_append, List.length_cons, List.length_nil, List.nil_append]; omega) | (simp; omega)) (by first | (unfold maxLen; done) | (unfold maxLen; first | omega | (simp; done) | (simp; omega))) ?_
     clear fr a
     intro A76 cap77 w78 O79 hO80 mv81
     replace hV := (((((hV.new hN26).only hO30 (Apart.ne1 ap_A_b24)).new hN64).new hN67).new hN69).new hN73
     have ap2_A76_A : Apart2 A76 A := moved_apart2 mv81 ap2_A_Sx.symm fun _ hg => hV.lt hg
     replace B4 := B4.new hN73
     have ap_A76_b1 : Apart A76 b1 := moved_apart mv81 ap_Sx_b1 B4.lt
     replace B9 := B9.new hN73
     have ap_A76_b6 : Apart A76 b6 := moved_apart mv81 ap_Sx_b6 B9.lt
     replace B14 := (((((B14.new hN26).only hO30 ne_b11_b24).new hN64).new hN67).new hN69).new hN73
     have ap_A76_b11 : Apart A76 b11 := moved_apart mv81 ap_Sx_b11 B14.lt
     replace hF := (((((hF.trNew hN26).loc hO30 (.inr g_b24)).trNew hN64).trNew hN67).trNew hN69).trNew hN73
     have gA_A76 := gA_moved hF mv81 gA_Sx
     clear Oo
     refine Za ?_
     refine Znn ?_
     refine Zrg ?_
     refine Za ?_
     refine Znn ?_
     refine Zrg ?_
     refine Zm ?_
     replace B27 := (B27.new hN73).only hO80 ap_Sx_b24
     refine ZE lnE ag39 (B27.rangeE lnE) ?_
     intro a fr
     refine fx_build1 (E := lnE) (p := (L.getD k ln0)) elLn (by decide) fr rfl rfl (by decide) rfl (fr.ev rfl) ?_
     clear fr a
     intro A82 w83 hN84 O85 hA86
     intro a fr
     replace O79 := O79.new hN84
     refine fx_append (E := lnE) (l := os ++ ([x])) (l' := [(L.getD k ln0)]) elLn fr rfl rfl (by decide) rfl (fr.ev rfl) (fr.ev rfl) (by first | rfl | (simp; done) | (simp; omega)) (by first | rfl | (simp; done) | (simp; omega)) O79 O85.view (by first | omega | (simp only [List.length_append, List.length_cons, List.length_nil, List.nil_append]; omega) | (simp; omega)) (by first | (unfold maxLen; done) | (unfold maxLen; first | omega | (simp; done) | (simp; omega))) ?_
     clear fr a
     intro A87 cap88 w89 O90 hO91 mv92
     replace hV := (hV.only hO80 (fun g h1 h2 => ap2_A_Sx g h1 h2)).new hN84
     have ap2_A87_A : Apart2 A87 A := moved_apart2 mv92 ap2_A76_A fun _ hg => hV.lt hg
     replace B4 := (B4.only hO80 ap_Sx_b1).new hN84
     have ap_A87_b1 : Apart A87 b1 := moved_apart mv92 ap_A76_b1 B4.lt
     replace B9 := (B9.only hO80 ap_Sx_b6).new hN84
     have ap_A87_b6 : Apart A87 b6 := moved_apart mv92 ap_A76_b6 B9.lt
     replace B14 := (B14.only hO80 ap_Sx_b11).new hN84
     have ap_A87_b11 : Apart A87 b11 := moved_apart mv92 ap_A76_b11 B14.lt
     replace hF := (hF.locA hO80 gA_Sx).trNew hN84
     have gA_A87 := gA_moved hF mv92 gA_A76
     clear O79
     refine Za ?_
     refine Znl ?_
     refine Zb ?_
     refine Znx ?_
     refine Zrg ?_
     refine Zm ?_
     refine Zv _ (fun _ fr => x_add rfl (fr.ev rfl) rfl (i64w (r := ((k + 1 : Nat) : Int)) (by omega) (by omega))) ?_
     refine Za ?_
     intro a fr
     refine wpList_nil ?_
     refine fx_next ?_
     have hstep : os ++ wl n x th (L.drop k) pt = (os ++ ([x])) ++ ([(L.getD k ln0)]) ++ wl n x th (L.drop (k + 1)) true := by rw [hdk]; simp only [wl, hc20, if_neg hc31, hc65, decide_eq_true (show si n x.num < si n (L.getD k ln0).num by omega), Bool.true_and, Bool.and_true, Bool.false_and, Bool.and_false, Bool.or_true, Bool.or_false, Bool.false_eq_true, if_true, if_false, List.nil_append, List.append_assoc, List.cons_append]
     replace hV := hV.only hO91 (fun g h1 h2 => ap2_A76_A.symm g h1 h2)
     replace B4 := B4.only hO91 ap_A76_b1
     replace B9 := B9.only hO91 ap_A76_b6
     replace B14 := B14.only hO91 ap_A76_b11
     replace hF := hF.locA hO91 gA_A76
     exact ⟨_, by omega, (k + 1), A87, cap88, ((os ++ ([x])) ++ ([(L.getD k ln0)])), true, rfl, fr.sub ⟨rfl, rfl, rfl, rfl, rfl, rfl, rfl, trivial⟩, hF, hV, B4, B9, B14, O90, by omega, (by rw [← hstep]; exact hos), (by simp; omega), ap2_A87_A.symm, ap_A87_b1, ap_A87_b6, ap_A87_b11, gA_A87⟩
    ·have hc70 := of_decide_eq_false hc70
     refine Zsk ?_
     refine Znx ?_
     refine Zrg ?_
     refine Zm ?_
     refine ZE lnE ag39 (B27.rangeE lnE) ?_
     intro a fr
     refine fx_build1 (E := lnE) (p := (L.getD k ln0)) elLn (by decide) fr rfl rfl (by decide) rfl (fr.ev rfl) ?_
     clear fr a
     intro A93 w94 hN95 O96 hA97
     intro a fr
     replace Oo := (((((Oo.new hN26).only hO30 (Apart.ne1 ap_Sx_b24)).new hN64).new hN67).new hN69).new hN95
     refine fx_append (E := lnE) (l := os) (l' := [(L.getD k ln0)]) elLn fr rfl rfl (by decide) rfl (fr.ev rfl) (fr.ev rfl) (by first | rfl | (simp; done) | (simp; omega)) (by first | rfl | (simp; done) | (simp; omega)) Oo O96.view (by first | omega | (simp only [List.length_append, List.length_cons, List.length_nil, List.nil_append]; omega) | (simp; omega)) (by first | (unfold maxLen; done) | (unfold maxLen; first | omega | (simp; done) | (simp; omega))) ?_
     clear fr a
     intro A98 cap99 w100 O101 hO102 mv103
     replace hV := (((((hV.new hN26).only hO30 (Apart.ne1 ap_A_b24)).new hN64).new hN67).new hN69).new hN95
     have ap2_A98_A : Apart2 A98 A := moved_apart2 mv103 ap2_A_Sx.symm fun _ hg => hV.lt hg
     replace B4 := B4.new hN95
     have ap_A98_b1 : Apart A98 b1 := moved_apart mv103 ap_Sx_b1 B4.lt
     replace B9 := B9.new hN95
     have ap_A98_b6 : Apart A98 b6 := moved_apart mv103 ap_Sx_b6 B9.lt
     replace B14 := (((((B14.new hN26).only hO30 ne_b11_b24).new hN64).new hN67).new hN69).new hN95
     have ap_A98_b11 : Apart A98 b11 := moved_apart mv103 ap_Sx_b11 B14.lt
     replace hF := (((((hF.trNew hN26).loc hO30 (.inr g_b24)).trNew hN64).trNew hN67).trNew hN69).trNew hN95
     have gA_A98 := gA_moved hF mv103 gA_Sx
     clear Oo
     refine Za ?_
     refine Znl ?_
     refine Zb ?_
     refine Znx ?_
     refine Zrg ?_
     refine Zm ?_
     refine Zv _ (fun _ fr => x_add rfl (fr.ev rfl) rfl (i64w (r := ((k + 1 : Nat) : Int)) (by omega) (by omega))) ?_
     refine Za ?_
     intro a fr
     refine wpList_nil ?_
     refine fx_next ?_
     have hstep : os ++ wl n x th (L.drop k) pt = os ++ ([(L.getD k ln0)]) ++ wl n x th (L.drop (k + 1)) (pt) := by rw [hdk]; simp only [wl, hc20, if_neg hc31, hc65, decide_eq_false (show ¬ si n x.num < si n (L.getD k ln0).num by omega), Bool.true_and, Bool.and_true, Bool.false_and, Bool.and_false, Bool.or_true, Bool.or_false, Bool.false_eq_true, if_true, if_false, List.nil_append, List.append_assoc, List.cons_append]
     replace hV := hV.only hO102 (fun g h1 h2 => ap2_A_Sx g h1 h2)
     replace B4 := B4.only hO102 ap_Sx_b1
     replace B9 := B9.only hO102 ap_Sx_b6
     replace B14 := B14.only hO102 ap_Sx_b11
     replace hF := hF.locA hO102 gA_Sx
     exact ⟨_, by omega, (k + 1), A98, cap99, (os ++ ([(L.getD k ln0)])), (pt), rfl, fr.sub ⟨rfl, rfl, rfl, rfl, rfl, rfl, rfl, trivial⟩, hF, hV, B4, B9, B14, O101, by omega, (by rw [← hstep]; exact hos), (by simp; omega), ap2_A98_A.symm, ap_A98_b1, ap_A98_b6, ap_A98_b11, gA_A98⟩
   ·intro a fr
    rw [hc65] at fr
    revert a
    have hc65s := hc65
    try simp at hc65s
    refine Zs ?_
    refine Zhb ⟨B4, B9, B27, trivial⟩ ?_
    have hS9 := And.intro B4 (And.intro B9 (And.intro B27 trivial))
    refine Zhs 14 hS9 ?_
    refine Zhs 15 hS9 ?_
    refine Zht 16 rfl (.bool false) hS9 (fun _ fr _ _ => x_pick_f rfl (fr.ev rfl) rfl) ?_
    refine Zhn ?_
    refine Znx ?_
    refine Zcf ?_
    refine Zsk ?_
    refine Znx ?_
    refine Zrg ?_
    refine Zm ?_
    refine ZE lnE ag39 (B27.rangeE lnE) ?_
    intro a fr
    refine fx_build1 (E := lnE) (p := (L.getD k ln0)) elLn (by decide) fr rfl rfl (by decide) rfl (fr.ev rfl) ?_
    clear fr a
    intro A104 w105 hN106 O107 hA108
    intro a fr
    replace Oo := (((Oo.new hN26).only hO30 (Apart.ne1 ap_Sx_b24)).new hN64).new hN106
    refine fx_append (E := lnE) (l := os) (l' := [(L.getD k ln0)]) elLn fr rfl rfl (by decide) rfl (fr.ev rfl) (fr.ev rfl) (by first | rfl | (simp; done) | (simp; omega)) (by first | rfl | (simp; done) | (simp; omega)) Oo O107.view (by first | omega | (simp only [List.length_append, List.length_cons, List.length_nil, List.nil_append]; omega) | (simp; omega)) (by first | (unfold maxLen; done) | (unfold maxLen; first | omega | (simp; done) | (simp; omega))) ?_
    clear fr a
    intro A109 cap110 w111 O112 hO113 mv114
    replace hV := (((hV.new hN26).only hO30 (Apart.ne1 ap_A_b24)).new hN64).new hN106
    have ap2_A109_A : Apart2 A109 A := moved_apart2 mv114 ap2_A_Sx.symm fun _ hg => hV.lt hg
    replace B4 := B4.new hN106
    have ap_A109_b1 : Apart A109 b1 := moved_apart mv114 ap_Sx_b1 B4.lt
    replace B9 := B9.new hN106
    have ap_A109_b6 : Apart A109 b6 := moved_apart mv114 ap_Sx_b6 B9.lt
    replace B14 := (((B14.new hN26).only hO30 ne_b11_b24).new hN64).new hN106
    have ap_A109_b11 : Apart A109 b11 := moved_apart mv114 ap_Sx_b11 B14.lt
    replace hF := (((hF.trNew hN26).loc hO30 (.inr g_b24)).trNew hN64).trNew hN106
    have gA_A109 := gA_moved hF mv114 gA_Sx
    clear Oo
    refine Za ?_
    refine Znl ?_
    refine Zb ?_
    refine Znx ?_
    refine Zrg ?_
    refine Zm ?_
    refine Zv _ (fun _ fr => x_add rfl (fr.ev rfl) rfl (i64w (r := ((k + 1 : Nat) : Int)) (by omega) (by omega))) ?_
    refine Za ?_
    intro a fr
    refine wpList_nil ?_
    refine fx_next ?_
    have hstep : os ++ wl n x th (L.drop k) pt = os ++ ([(L.getD k ln0)]) ++ wl n x th (L.drop (k + 1)) (pt) := by rw [hdk]; simp only [wl, hc20, if_neg hc31, hc65, Bool.true_and, Bool.and_true, Bool.false_and, Bool.and_false, Bool.or_true, Bool.or_false, Bool.false_eq_true, if_true, if_false, List.nil_append, List.append_assoc, List.cons_append]
    replace hV := hV.only hO113 (fun g h1 h2 => ap2_A_Sx g h1 h2)
    replace B4 := B4.only hO113 ap_Sx_b1
    replace B9 := B9.only hO113 ap_Sx_b6
    replace B14 := B14.only hO113 ap_Sx_b11
    replace hF := hF.locA hO113 gA_Sx
    exact ⟨_, by omega, (k + 1), A109, cap110, (os ++ ([(L.getD k ln0)])), (pt), rfl, fr.sub ⟨rfl, rfl, rfl, rfl, rfl, rfl, rfl, trivial⟩, hF, hV, B4, B9, B14, O112, by omega, (by rw [← hstep]; exact hos), (by simp; omega), ap2_A109_A.symm, ap_A109_b1, ap_A109_b6, ap_A109_b11, gA_A109⟩
 ·have hc20 := of_decide_eq_false hc20
  refine Zex ?_
  refine Zxt ?_
  refine Zxt ?_
  refine Zxx ?_
  refine Znx ?_
  refine Zsq ?_
  refine Zsr ?_
  refine Zm ?_
  refine Zv (.bool (!(th))) (fun _ fr => x_not rfl (fr.ev rfl) rfl) ?_
  refine Zm ?_
  refine Zy (!(th)) (.bool (pt)) (fun _ fr _ => x_move rfl (fr.ev rfl)) ?_
  refine Zy (!(th)) (.bool (!(pt))) (fun _ fr hg => x_not rfl ((fr.ev rfl).trans (onlyIf_t hg)) rfl) ?_
  refine Zv (.bool ((!(th)) && (!(pt)))) (fun _ fr => x_pick_and rfl (fr.ev rfl) (fun hb => ((fr.ev rfl)).trans (onlyIf_t (by simp_all))) (fun _ => rfl) rfl) ?_
  refine Znn ?_
  refine Zcd (fun hc115 => ?_) (fun hc115 => ?_)
  ·have hc115s := hc115
   try simp at hc115s
   refine Zrg ?_
   refine Zm ?_
   refine ZE lnE ag39 (B9.rangeE lnE) ?_
   intro a fr
   refine fx_build1 (E := lnE) (p := x) elLn (by decide) fr rfl rfl (by decide) rfl (fr.ev rfl) ?_
   clear fr a
   intro A116 w117 hN118 O119 hA120
   intro a fr
   replace Oo := Oo.new hN118
   refine fx_append (E := lnE) (l := os) (l' := [x]) elLn fr rfl rfl (by decide) rfl (fr.ev rfl) (fr.ev rfl) (by first | rfl | (simp; done) | (simp; omega)) (by first | rfl | (simp; done) | (simp; omega)) Oo O119.view (by first | omega | (simp only [List.length_append, List.length_cons, List.length_nil, List.nil_append]; omega) | (simp; omega)) (by first | (unfold maxLen; done) | (unfold maxLen; first | omega | (simp; done) | (simp; omega))) ?_
   clear fr a
   intro A121 cap122 w123 O124 hO125 mv126
   replace B4 := B4.new hN118
   have ap_A121_b1 : Apart A121 b1 := moved_apart mv126 ap_Sx_b1 B4.lt
   replace B14 := B14.new hN118
   have ap_A121_b11 : Apart A121 b11 := moved_apart mv126 ap_Sx_b11 B14.lt
   replace hF := hF.trNew hN118
   have gA_A121 := gA_moved hF mv126 gA_Sx
   clear Oo
   refine Za ?_
   refine Znn ?_
   refine Zsr ?_
   refine Zm ?_
   refine Zf fo42_3 ?_
   replace B4 := B4.only hO125 ap_Sx_b1
   refine Zs1 (cs' := rcE.arr (RC.mk id ((n : Nat) : Int) ways A121 ((os ++ ([x])).length) cap122 (ak) al (aw) (gv) gx)) sz40 B4 (by rw [rcE.size]; decide) (rc_set3 _ _ _ _) fun w127 hO128 hBq => ?_
   replace B4 := hBq
   clear hBq
   refine Znn ?_
   refine Zsr ?_
   refine ZE rcE ag42 (B4.rangeE rcE) ?_
   replace B14 := (B14.only hO125 ap_Sx_b11).only hO128 ne_b1_b11.symm
   refine ZsS sz42 (rcE.all _) B14 (rcE.size _) (rcE.size _) fun w129 hO130 hBq => ?_
   replace B14 := hBq
   clear hBq
   refine Znn ?_
   refine Zrt ?_
   refine Zre rfl [_] ⟨⟨_, rfl, loadV_E (E := rcE) ag42 rfl (B14.rangeE rcE)⟩, trivial⟩ ?_
   obtain rfl : k = L.length := by omega
   rw [wl_end (Nat.le_refl _)] at hos
   have hwf : withF n L x = wl n x th L false := by unfold withF; rw [hth]
   have hos2 : withF n L x = os ++ ([x]) := by rw [hwf, ← hos]; revert hc115; cases th <;> cases pt <;> simp
   rw [hos2]
   replace hF := ((hF.locA hO125 gA_Sx).loc hO128 (.inr g_b1)).loc hO130 (.inr g_b11)
   replace O124 := (O124.only hO128 (Apart.ne1 ap_A121_b1)).only hO130 (Apart.ne1 ap_A121_b11)
   exact ⟨_, rfl, A121, cap122, rfl, (O124).view, fun g hg => (gA_A121 g hg).resolve_left (fun h => h), hF⟩
  ·have hc115s := hc115
   try simp at hc115s
   refine Zsk ?_
   refine Znx ?_
   refine Zsr ?_
   refine Zm ?_
   refine Zf fo42_3 ?_
   refine Zs1 (cs' := rcE.arr (RC.mk id ((n : Nat) : Int) ways Sx os.length sc (ak) al (aw) (gv) gx)) sz40 B4 (by rw [rcE.size]; decide) (rc_set3 _ _ _ _) fun w131 hO132 hBq => ?_
   replace B4 := hBq
   clear hBq
   refine Znn ?_
   refine Zsr ?_
   refine ZE rcE ag42 (B4.rangeE rcE) ?_
   replace B14 := B14.only hO132 ne_b1_b11.symm
   refine ZsS sz42 (rcE.all _) B14 (rcE.size _) (rcE.size _) fun w133 hO134 hBq => ?_
   replace B14 := hBq
   clear hBq
   refine Znn ?_
   refine Zrt ?_
   refine Zre rfl [_] ⟨⟨_, rfl, loadV_E (E := rcE) ag42 rfl (B14.rangeE rcE)⟩, trivial⟩ ?_
   obtain rfl : k = L.length := by omega
   rw [wl_end (Nat.le_refl _)] at hos
   have hwf : withF n L x = wl n x th L false := by unfold withF; rw [hth]
   have hos2 : withF n L x = os := by rw [hwf, ← hos]; revert hc115; cases th <;> cases pt <;> simp
   rw [hos2]
   replace Oo := (Oo.only hO132 (Apart.ne1 ap_Sx_b1)).only hO134 (Apart.ne1 ap_Sx_b11)
   replace hF := (hF.loc hO132 (.inr g_b1)).loc hO134 (.inr g_b11)
   exact ⟨_, rfl, Sx, sc, rfl, (Oo).view, fun g hg => (gA_Sx g hg).resolve_left (fun h => h), hF⟩
end Go.Proofs.Ytflnlmibkbojcaa
namespace Go.Proofs.Ytflnlmibkbojcaa
open Go.RowKit
structure RD where
  id : Int
  n : Nat
  ways : Int
  M : List Ln
  ak : Bool
  al : Int
  aw : Bool
  gv : Bool
  gx : Ln
def rcv (r : RD) (A : Option Addr) (cap : Nat) : RC := RC.mk r.id r.n r.ways A r.M.length cap r.ak r.al r.aw r.gv r.gx
def rOutF (r : RD) (x : Ln) : RD × List Msg × Bool :=
  ({ r with M := if x.state = 1 ∨ r.gv = false then dropL r.M x.num else r.M, gv := if x.state = 1 then r.gv else true, gx := if x.state = 1 ∨ r.gv = true then r.gx else x }, if x.state = 1 ∨ r.gv = true then [] else [putM r.id x], decide (x.state = 1) || !r.gv)
theorem rOutF_len (r : RD) (x : Ln) : (rOutF r x).2.1.length ≤ 1 := by
  unfold rOutF
  dsimp only
  split
  · simp
  · exact Nat.le_refl _
def rBusy (r : RD) (line : Int) : Bool := r.ak || (r.gv && decide (r.gx.num = line))
def rThere (r : RD) (line : Int) (wr : Bool) : Bool := decide (0 < stateOf r.M line) && (!wr || decide (2 ≤ stateOf r.M line))
def rFull (r : RD) (line : Int) : Bool := decide (stateOf r.M line = 0) && decide (((ofs r.n r.M (si r.n line)).length : Int) = r.ways)
def rVic (r : RD) (line pick : Int) : Ln := (ofs r.n r.M (si r.n line)).getD (pickAt pick (ofs r.n r.M (si r.n line)).length) ln0
def rAskF (r : RD) (line : Int) (h : 0 ≤ line ∧ line < 4294967296) (wr : Bool) (pick : Int) : RD × List Msg × Int :=
  if rBusy r line = true then (r, [], 230)
  else if rThere r line wr = true then (r, [], 231)
  else if rFull r line = true then
    (if (rOutF r (rVic r line pick)).2.2 = true then ({ (rOutF r (rVic r line pick)).1 with ak := true, al := line, aw := wr }, (rOutF r (rVic r line pick)).2.1 ++ [askM r.id line wr h], 0) else (r, [], 230))
  else ({ r with ak := true, al := line, aw := wr }, [askM r.id line wr h], 0)
def rEvictF (r : RD) (pick : Int) : RD × List Msg :=
  if r.M = [] then (r, []) else ((rOutF r (r.M.getD (pickAt pick r.M.length) ln0)).1, (rOutF r (r.M.getD (pickAt pick r.M.length) ln0)).2.1)
def rPutF (r : RD) (addr width v : Int) : RD × Int :=
  if rightA addr width = false then (r, 2) else if stateOf r.M (addr / 16) < 2 then (r, 232)
  else ({ r with M := withF r.n r.M (wrLn ((getN r.M (addr / 16)).getD ln0) addr width v) }, 0)
def rDataOk (r : RD) (m : Msg) : Bool := r.ak && decide (r.al = m.line) && (r.aw == decide (m.kind = 10))
theorem data_txt (ak aw k : Bool) (x y : Int) : (!ak || decide (x ≠ y) || (aw != k)) = !(ak && decide (x = y) && (aw == k)) := by
  cases ak <;> cases aw <;> cases k <;> by_cases h : x = y <;> simp [h]
def rMine (r : RD) (m : Msg) : Bool := r.gv && decide (r.gx.num = m.line)
def rTakeF (r : RD) (m : Msg) : RD × List Msg × Int :=
  if chk m ≠ 0 ∨ m.dst ≠ r.id then (r, [], 2)
  else if m.kind = 8 ∨ m.kind = 9 ∨ m.kind = 10 then
    (if rDataOk r m = true then ({ r with M := withF r.n r.M (dataLn m), ak := false, al := 0, aw := false }, [mkM 13 r.id 4 m.line b16z m.hn], 0) else (r, [], 220))
  else if m.kind = 4 ∨ m.kind = 5 then
    (if rMine r m = true then (r, [mkM 11 r.id 4 m.line r.gx.bs m.hn], 0)
     else if stateOf r.M m.line < 2 then (r, [], 220)
     else ({ r with M := if m.kind = 5 then dropL r.M m.line else withF r.n r.M { (getN r.M m.line).getD ln0 with state := 1 } }, [mkM 11 r.id 4 m.line ((getN r.M m.line).getD ln0).bs m.hn], 0))
  else if m.kind = 6 then (if 2 ≤ stateOf r.M m.line then (r, [], 220) else ({ r with M := dropL r.M m.line }, [mkM 12 r.id 4 m.line b16z m.hn], 0))
  else if rMine r m = true then ({ r with gv := false, gx := ln0 }, [], 0) else (r, [], 220)
def RefR (w : World) (A : Option Addr) (r : RD × List Msg × Int) (v : Value) (w' : World) : Prop :=
  ∃ A' cap' B cB, v = .tuple #[.agg (rcE.arr (rcv r.1 A' cap')), .slice B r.2.1.length cB, .int .i64 r.2.2] ∧ View lnE w' A' cap' r.1.M ∧ View msgE w' B cB r.2.1 ∧ (∀ g, inA A' g → inA A g ∨ w.heap.size ≤ g) ∧ (∀ g, inA B g → w.heap.size ≤ g) ∧ New w w'
theorem refR_mk {w w' : World} {A A' B : Option Addr} {cap' cB : Nat} {r : RD × List Msg × Int} {r' : RD} {l : List Msg} {e : Int} (hr : r = (r', l, e)) (hV : View lnE w' A' cap' r'.M) (hM : View msgE w' B cB l) (hA : ∀ g, inA A' g → inA A g ∨ w.heap.size ≤ g) (hB : ∀ g, inA B g → w.heap.size ≤ g) (hn : New w w') :
    RefR w A r (.tuple #[.agg (rcE.arr (rcv r' A' cap')), .slice B l.length cB, .int .i64 e]) w' := by
  subst hr
  exact ⟨A', cap', B, cB, rfl, hV, hM, hA, hB, hn⟩
def RefE (w : World) (A : Option Addr) (r : RD × List Msg) (v : Value) (w' : World) : Prop :=
  ∃ A' cap' B cB, v = .tuple #[.agg (rcE.arr (rcv r.1 A' cap')), .slice B r.2.length cB] ∧ View lnE w' A' cap' r.1.M ∧ View msgE w' B cB r.2 ∧ (∀ g, inA A' g → inA A g ∨ w.heap.size ≤ g) ∧ (∀ g, inA B g → w.heap.size ≤ g) ∧ New w w'
theorem refE_mk {w w' : World} {A A' B : Option Addr} {cap' cB : Nat} {r : RD × List Msg} {r' : RD} {l : List Msg} (hr : r = (r', l)) (hV : View lnE w' A' cap' r'.M) (hM : View msgE w' B cB l) (hA : ∀ g, inA A' g → inA A g ∨ w.heap.size ≤ g) (hB : ∀ g, inA B g → w.heap.size ≤ g) (hn : New w w') :
    RefE w A r (.tuple #[.agg (rcE.arr (rcv r' A' cap')), .slice B l.length cB]) w' := by
  subst hr
  exact ⟨A', cap', B, cB, rfl, hV, hM, hA, hB, hn⟩
def RefP (w : World) (A : Option Addr) (r : RD × Int) (v : Value) (w' : World) : Prop :=
  ∃ A' cap', v = .tuple #[.agg (rcE.arr (rcv r.1 A' cap')), .int .i64 r.2] ∧ View lnE w' A' cap' r.1.M ∧ (∀ g, inA A' g → inA A g ∨ w.heap.size ≤ g) ∧ New w w'
theorem refP_mk {w w' : World} {A A' : Option Addr} {cap' : Nat} {r : RD × Int} {r' : RD} {e : Int} (hr : r = (r', e)) (hV : View lnE w' A' cap' r'.M) (hA : ∀ g, inA A' g → inA A g ∨ w.heap.size ≤ g) (hn : New w w') :
    RefP w A r (.tuple #[.agg (rcE.arr (rcv r' A' cap')), .int .i64 e]) w' := by
  subst hr
  exact ⟨A', cap', rfl, hV, hA, hn⟩
def RefO (w : World) (A : Option Addr) (r : RD × List Msg × Bool) (v : Value) (w' : World) : Prop :=
  ∃ A' cap' B cB, v = .tuple #[.agg (rcE.arr (rcv r.1 A' cap')), .slice B r.2.1.length cB, .bool r.2.2] ∧ View lnE w' A' cap' r.1.M ∧ Own msgE w' B cB r.2.1 ∧ (∀ g, inA A' g → inA A g ∨ w.heap.size ≤ g) ∧ (∀ g, inA B g → w.heap.size ≤ g) ∧ Apart2 A' B ∧ New w w'
theorem refO_mk {w w' : World} {A A' B : Option Addr} {cap' cB : Nat} {r : RD × List Msg × Bool} {r' : RD} {l : List Msg} {e : Bool} (hr : r = (r', l, e)) (hV : View lnE w' A' cap' r'.M) (hM : Own msgE w' B cB l) (hA : ∀ g, inA A' g → inA A g ∨ w.heap.size ≤ g) (hB : ∀ g, inA B g → w.heap.size ≤ g) (hn : New w w') (hAB : Apart2 A' B) :
    RefO w A r (.tuple #[.agg (rcE.arr (rcv r' A' cap')), .slice B l.length cB, .bool e]) w' := by
  subst hr
  exact ⟨A', cap', B, cB, rfl, hV, hM, hA, hB, hAB, hn⟩
theorem ln_cellL (x : Ln) {j : Nat} (hj : j < 16) : (lnE.cells x)[2 + j]? = some (.int .u8 (x.bs.1.getD j 0)) := by
  have := ln_cell x hj
  simpa [Enc.arr] using this
theorem rdI_cons (bs : List Int) : ∀ (m q : Nat), rdI bs q (m + 1) = bs.getD q 0 + 256 * rdI bs (q + 1) m
  | 0, q => by simp [rdI]
  | m + 1, q => by
    have h1 := rdI_cons bs m q
    rw [show rdI bs q (m + 1 + 1) = rdI bs q (m + 1) + bs.getD (q + (m + 1)) 0 * 256 ^ (m + 1) from rfl, h1, show rdI bs (q + 1) (m + 1) = rdI bs (q + 1) m + bs.getD (q + 1 + m) 0 * 256 ^ m from rfl, Int.pow_succ, show q + (m + 1) = q + 1 + m by omega]
    rw [Int.mul_add, Int.add_assoc, Int.mul_comm (256 ^ m) 256, ← Int.mul_assoc, ← Int.mul_assoc, Int.mul_comm _ 256]
theorem rd_up (b : B16) (p m : Nat) (hm : m < 4) : IntKind.u32.wrap (256 * rdI b.1 (p + 1) m) = 256 * rdI b.1 (p + 1) m ∧ 0 ≤ 256 * rdI b.1 (p + 1) m ∧ 256 * rdI b.1 (p + 1) m ≤ 4294967040 := by
  have h := rdI_bd b.2.2 (p + 1) m
  have hb : (256 : Int) ^ m ≤ 16777216 := by
    rcases (show m = 0 ∨ m = 1 ∨ m = 2 ∨ m = 3 by omega) with rfl | rfl | rfl | rfl <;> decide
  have h2 : 0 ≤ 256 * rdI b.1 (p + 1) m ∧ 256 * rdI b.1 (p + 1) m ≤ 4294967040 := by omega
  exact ⟨u32w rfl (by omega), h2⟩
theorem div_next (v : Int) (j : Nat) : v / 256 ^ j / 256 = v / 256 ^ (j + 1) := by
  rw [Int.pow_succ, Int.ediv_ediv_of_nonneg (Int.pow_nonneg (by decide))]
theorem div_bd {v : Int} (h : 0 ≤ v ∧ v < 4294967296) (j : Nat) : 0 ≤ v / 256 ^ j ∧ v / 256 ^ j < 4294967296 := by
  have h1 : (0 : Int) < 256 ^ j := Int.pow_pos (by decide)
  refine ⟨Int.ediv_nonneg h.1 (by omega), ?_⟩
  have := Int.ediv_le_self (256 ^ j) h.1
  omega
end Go.Proofs.Ytflnlmibkbojcaa
namespace Go.Proofs.Ytflnlmibkbojcaa
open Go.RowKit
set_option maxRecDepth 100000 in
set_option maxHeartbeats 4000000 in
theorem rcread_c (addr : Int) (ha : 0 ≤ addr ∧ addr < 4294967296) (width : Int) {w : World} {id : Int} {n : Nat} {ways : Int} {A : Option Addr} {cap : Nat} {L : List Ln} {ak : Bool} {al : Int} {aw gv : Bool} {gx : Ln} (hV : View lnE w A cap L)  : Calls Try.prog 18 #[.agg (rcE.arr (RC.mk id ((n : Nat) : Int) ways A L.length cap (ak) al (aw) (gv) gx)), .int .u32 addr, .int .i64 width] w (Ret fun v w' => v = .tuple #[.int .u32 (readF L addr width).1, .int .i64 (readF L addr width).2] ∧ New w w') := by
 have hVl := hV.len
 unfold maxLen at hVl
 have hF := Only.refl (fun _ => False) w
 refine Zen 44 Try.func18 ?_
 refine Zsr ?_
 refine Znb (cs := rcE.arr (RC.mk id ((n : Nat) : Int) ways A L.length cap (ak) al (aw) (gv) gx)) fun b1 w2 hN3 B4 hb5 => ?_
 refine Za ?_
 refine Za ?_
 refine Znn ?_
 refine Zsq ?_
 refine Zsr ?_
 refine Zm ?_
 refine Zm ?_
 refine Zk (args := #[.int .u32 addr, .int .i64 width]) cf57 (rcright_c addr width (by omega) _) ?_
 rintro v w9 ⟨rfl, hw9⟩
 obtain rfl := hw9.symm
 refine Zv _ (fun _ fr => x_not rfl (fr.ev rfl) rfl) ?_
 refine Znn ?_
 refine Zcd (fun hc8 => ?_) (fun hc8 => ?_)
 ·refine Zsr ?_
  refine Za ?_
  refine Za ?_
  refine Znn ?_
  refine Zrt ?_
  refine Zr1 ?_
  refine Zre rfl [_, _] ⟨rfl, rfl, trivial⟩ ?_
  have hq : readF L addr width = (0, 2) := by unfold readF; rw [if_pos (by simpa using hc8)]
  rw [hq]
  replace hF := hF.trNew hN3
  exact ⟨_, rfl, rfl, hF⟩
 ·refine Zsk ?_
  refine Znx ?_
  refine Zsq ?_
  have hrt : rightA addr width = true := by simpa using hc8
  have hrd := rightA_yes (by omega) hrt
  refine Zrg ?_
  refine ZE rcE ag42 (B4.rangeE rcE) ?_
  refine Zm ?_
  refine Zv (.int .u32 (addr / 16)) (fun _ fr => x_quo rfl (fr.ev rfl) rfl (by decide) (u32q (by omega) (by decide))) ?_
  replace hV := hV.new hN3
  refine Zk cf58 (rcfind_c (addr / 16) (hV)) ?_
  rintro v w9 ⟨rfl, hN10⟩
  refine Za ?_
  refine Znn ?_
  refine Zsq ?_
  refine Zsq ?_
  rcases fnd_spec L (addr / 16) with ⟨hf, hno⟩ | ⟨i, hf, hi, hin, hall⟩
  ·intro a fr
   rw [hf] at fr
   revert a
   refine Zrg ?_
   refine Zm ?_
   refine Zv (.bool true) (fun _ fr => x_lss rfl (fr.ev rfl) rfl rfl) ?_
   refine Znn ?_
   refine Zct ?_
   refine Zsr ?_
   refine Za ?_
   refine Za ?_
   refine Znn ?_
   refine Zrt ?_
   refine Zr1 ?_
   refine Zre rfl [_, _] ⟨rfl, rfl, trivial⟩ ?_
   have hnr : ¬ rightA addr width = false := by rw [hrt]; decide
   have hq : readF L addr width = (0, 232) := by unfold readF; rw [if_neg hnr, fnd_none ⟨hf, hno⟩]
   rw [hq]
   replace hF := (hF.trNew hN3).trNew hN10
   exact ⟨_, rfl, rfl, hF⟩
  ·intro a fr
   rw [hf] at fr
   revert a
   have hi0 : ¬ ((i : Nat) : Int) < 0 := by omega
   have hi1 : 0 ≤ ((i : Nat) : Int) := by omega
   refine Zrg ?_
   refine Zm ?_
   refine Zv (.bool false) (fun _ fr => x_lss rfl (fr.ev rfl) rfl (decide_eq_false hi0)) ?_
   refine Znn ?_
   refine Zcf ?_
   refine Zsk ?_
   refine Znx ?_
   refine Zsr ?_
   refine Za ?_
   refine Znn ?_
   refine Zsq ?_
   refine Zsr ?_
   refine Zm ?_
   refine Zv _ (fun _ fr => x_sub rfl (fr.ev rfl) rfl (i64w (r := width - 1) (by omega) (by omega))) ?_
   refine Za ?_
   refine Znn ?_
   refine Zbl ?_
   intro a fr
   rw [show width - 1 = ((width.toNat : Nat) : Int) - 1 by omega] at fr
   rw [show (Value.int .u32 0) = .int .u32 (rdI (L.getD i ln0).bs.1 ((addr % 16).toNat + width.toNat) (width.toNat - width.toNat)) by rw [Nat.sub_self]; rfl] at fr
   revert a
   intro a fr
   replace hF := (hF.trNew hN3).trNew hN10
   replace hV := hV.new hN10
   replace B4 := B4.new hN10
   refine fx_loop (fun nM a wL => ∃ k : Nat, nM = 0 + k ∧ Fr (44, []) [(1, .int .u32 addr), (2, .int .i64 width), (3, .pointer (some ⟨b1, 0, none⟩)), (8, .int .i64 ((i : Nat) : Int)), (9, .int .u32 (rdI (L.getD i ln0).bs.1 ((addr % 16).toNat + k) (width.toNat - k))), (10, .int .i64 (((k : Nat) : Int) - 1))] a ∧ Only (fun _ => False) w wL ∧ View lnE wL A cap L ∧ Blk wL b1 42 (rcE.arr (RC.mk id ((n : Nat) : Int) ways A L.length cap (ak) al (aw) (gv) gx)) ∧ k ≤ width.toNat) (n0 := _) ⟨width.toNat, rfl, fr.sub ⟨rfl, rfl, rfl, rfl, rfl, rfl, trivial⟩, hF, hV, B4, Nat.le_refl _⟩ ?_
   clear fr a
   rintro n12 a w11 ⟨k, rfl, fr, hF, hV, B4, hk⟩
   revert a
   refine Zsq ?_
   refine Zsr ?_
   refine Zm ?_
   refine Zv _ (fun _ fr => x_geq rfl (fr.ev rfl) rfl rfl) ?_
   refine Znn ?_
   refine Zcd (fun hc13 => ?_) (fun hc13 => ?_)
   ·have hc13 := of_decide_eq_true hc13
    refine Zsk ?_
    refine Znx ?_
    refine Zsq ?_
    refine Zbl ?_
    intro a fr
    rw [show (addr % 16).toNat + k = (addr % 16).toNat + (k - 1) + 1 by omega] at fr
    revert a
    refine Zrg ?_
    refine Zm ?_
    refine Zv (.int .u32 (256 * rdI (L.getD i ln0).bs.1 ((addr % 16).toNat + (k - 1) + 1) (width.toNat - k))) (fun _ fr => x_mul rfl rfl (fr.ev rfl) (rd_up (L.getD i ln0).bs ((addr % 16).toNat + (k - 1)) (width.toNat - k) (by omega)).1) ?_
    refine Zf fo42_3 ?_
    refine Zd (v := .slice A L.length cap) pl40 (B4.cell 3 rfl) ?_
    refine Zm ?_
    refine Zm ?_
    refine Zv (.int .u32 (addr % 16)) (fun _ fr => x_rem rfl (fr.ev rfl) rfl (by decide) (rem_nn (by omega))) ?_
    refine Zv _ (fun _ fr => x_convert Try.underlying32 Try.underlying3 rfl (fr.ev rfl) (i64w (r := addr % 16) rfl (by omega))) ?_
    refine Zm ?_
    refine Zv _ (fun _ fr => x_add rfl (fr.ev rfl) (fr.ev rfl) (i64w (r := ((((addr % 16).toNat) + (k - 1) : Nat) : Int)) (by omega) (by omega))) ?_
    obtain ⟨g14, o15, hA16⟩ := (hV).some_ (by omega)
    refine Zv (.pointer (some ⟨g14, o15 + i * 18, none⟩)) (fun _ fr => x_indexV Try.underlying40 sz39 rfl (fr.ev rfl) hA16 (fr.ev rfl) (by omega) rfl) ?_
    refine Zf fo39_2 ?_
    refine Zv (.pointer (some ⟨g14, o15 + i * 18 + 2 + (((addr % 16).toNat) + (k - 1)), none⟩)) (fun _ fr => x_indexArr Try.underlying22 sz16 rfl (fr.ev rfl) (fr.ev rfl) (by omega) (show o15 + i * 18 + 2 + (((addr % 16).toNat) + (k - 1)) * 1 = o15 + i * 18 + 2 + (((addr % 16).toNat) + (k - 1)) by omega)) ?_
    refine Zd (v := .int .u8 ((L.getD i ln0).bs.1.getD (((addr % 16).toNat) + (k - 1)) 0)) pl5 (range_cell ((hV).elem hA16 i ln0 (by omega)) (2 + (((addr % 16).toNat) + (k - 1))) (ln_cellL (L.getD i ln0) (by omega)) (show o15 + i * 18 + (2 + (((addr % 16).toNat) + (k - 1))) = o15 + i * 18 + 2 + (((addr % 16).toNat) + (k - 1)) by omega)) ?_
    refine Zv (.int .u32 ((L.getD i ln0).bs.1.getD (((addr % 16).toNat) + (k - 1)) 0)) (fun _ fr => x_convert Try.underlying5 Try.underlying32 rfl (fr.ev rfl) (u32w (r := (L.getD i ln0).bs.1.getD (((addr % 16).toNat) + (k - 1)) 0) rfl (by have := getD_bd (L.getD i ln0).bs.2.2 (((addr % 16).toNat) + (k - 1)); omega))) ?_
    refine Zv (.int .u32 (rdI (L.getD i ln0).bs.1 ((addr % 16).toNat + (k - 1)) (width.toNat - (k - 1)))) (fun _ fr => x_add rfl (fr.ev rfl) (fr.ev rfl) (by rw [show width.toNat - (k - 1) = width.toNat - k + 1 by omega, rdI_cons, Int.add_comm]; exact u32w rfl (by have := getD_bd (L.getD i ln0).bs.2.2 ((addr % 16).toNat + (k - 1)); have := (rd_up (L.getD i ln0).bs ((addr % 16).toNat + (k - 1)) (width.toNat - k) (by omega)).2; omega))) ?_
    refine Za ?_
    refine Znl ?_
    refine Zb ?_
    refine Znx ?_
    refine Zrg ?_
    refine Zm ?_
    refine Zv _ (fun _ fr => x_sub rfl (fr.ev rfl) rfl (i64w (r := (((k - 1) : Nat) : Int) - 1) (by omega) (by omega))) ?_
    refine Za ?_
    intro a fr
    refine wpList_nil ?_
    refine fx_next ?_
    exact ⟨_, by omega, (k - 1), rfl, fr.sub ⟨rfl, rfl, rfl, rfl, rfl, rfl, trivial⟩, hF, hV, B4, by omega⟩
   ·have hc13 := of_decide_eq_false hc13
    refine Zex ?_
    refine Zxt ?_
    refine Zxt ?_
    refine Zxx ?_
    refine Znx ?_
    refine Zsr ?_
    refine Zm ?_
    refine Za ?_
    refine Za ?_
    refine Znn ?_
    refine Zrt ?_
    refine Zre rfl [_, _] ⟨rfl, rfl, trivial⟩ ?_
    have hnr : ¬ rightA addr width = false := by rw [hrt]; decide
    obtain rfl : k = 0 := by omega
    have hq : readF L addr width = (rdI (L.getD i ln0).bs.1 (addr % 16).toNat width.toNat, 0) := by unfold readF; rw [if_neg hnr, get_at hi hin hall]
    rw [hq]
    exact ⟨_, rfl, rfl, hF⟩
set_option maxRecDepth 100000 in
set_option maxHeartbeats 4000000 in
theorem rcput_c (addr : Int) (ha : 0 ≤ addr ∧ addr < 4294967296) (width value : Int) (hval : 0 ≤ value ∧ value < 4294967296) {w : World} {id : Int} {n : Nat} {ways : Int} {A : Option Addr} {cap : Nat} {L : List Ln} {ak : Bool} {al : Int} {aw gv : Bool} {gx : Ln} (hV : View lnE w A cap L) (hn : 0 < n ∧ n ≤ 64) (hl : L.length ≤ 1000)  : Calls Try.prog 16 #[.agg (rcE.arr (RC.mk id ((n : Nat) : Int) ways A L.length cap (ak) al (aw) (gv) gx)), .int .u32 addr, .int .i64 width, .int .u32 value] w (Ret fun v w' => RefP w A (rPutF (RD.mk id n ways L ak al aw gv gx) addr width value) v w') := by
 have hVl := hV.len
 unfold maxLen at hVl
 have hF := Only.refl (fun _ => False) w
 refine Zen 60 Try.func16 ?_
 refine Zsr ?_
 refine Znb (cs := rcE.arr (RC.mk id ((n : Nat) : Int) ways A L.length cap (ak) al (aw) (gv) gx)) fun b1 w2 hN3 B4 hb5 => ?_
 refine Zna (z := zv4) (cs := rcE.arr rc0) (by kernel_rfl) fun b6 w7 hN8 B9 hb10 => ?_
 replace hV := hV.new hN3
 have ap_A_b6 : Apart A b6 := hV.apart hb10
 replace hF := hF.trNew hN3
 have g_b6 := Nat.le_trans hF.size hb10
 refine Za ?_
 refine Znn ?_
 refine Zsq ?_
 refine Zsr ?_
 refine Zm ?_
 refine Zm ?_
 refine Zk (args := #[.int .u32 addr, .int .i64 width]) cf57 (rcright_c addr width (by omega) _) ?_
 rintro v w9 ⟨rfl, hw9⟩
 obtain rfl := hw9.symm
 refine Zv _ (fun _ fr => x_not rfl (fr.ev rfl) rfl) ?_
 refine Znn ?_
 refine Zcd (fun hc13 => ?_) (fun hc13 => ?_)
 ·refine Zsr ?_
  replace B4 := B4.new hN8
  refine ZE rcE ag42 (B4.rangeE rcE) ?_
  refine ZsS sz42 (rcE.all _) B9 (rcE.size _) (rcE.size _) fun w14 hO15 hBq => ?_
  replace B9 := hBq
  clear hBq
  refine Za ?_
  refine Znn ?_
  refine Zrt ?_
  refine Zr1 ?_
  refine Zre rfl [_, _] ⟨⟨_, rfl, loadV_E (E := rcE) ag42 rfl (B9.rangeE rcE)⟩, rfl, trivial⟩ ?_
  have hq : rPutF (RD.mk id n ways L ak al aw gv gx) addr width value = ((RD.mk id n ways L (ak) al (aw) (gv) gx), 2) := by unfold rPutF; rw [if_pos (by simpa using hc13)]
  replace hV := (hV.new hN8).only hO15 (Apart.ne1 ap_A_b6)
  replace hF := (hF.trNew hN8).loc hO15 (.inr g_b6)
  exact ⟨_, rfl, refP_mk (r' := (RD.mk id n ways L (ak) al (aw) (gv) gx)) hq hV (fun g hg => .inl hg) hF⟩
 ·refine Zsk ?_
  refine Znx ?_
  refine Zsq ?_
  have hrt : rightA addr width = true := by simpa using hc13
  have hrd := rightA_yes (by omega) hrt
  refine Zrg ?_
  replace B4 := B4.new hN8
  refine ZE rcE ag42 (B4.rangeE rcE) ?_
  refine Zm ?_
  refine Zv (.int .u32 (addr / 16)) (fun _ fr => x_quo rfl (fr.ev rfl) rfl (by decide) (u32q (by omega) (by decide))) ?_
  replace hV := hV.new hN8
  refine Zk cf58 (rcfind_c (addr / 16) (hV)) ?_
  rintro v w16 ⟨rfl, hN17⟩
  refine Za ?_
  refine Znn ?_
  refine Zsq ?_
  refine Zsq ?_
  rcases fnd_spec L (addr / 16) with ⟨hf, hno⟩ | ⟨i, hf, hi, hin, hall⟩
  ·intro a fr
   rw [hf] at fr
   revert a
   refine Zrg ?_
   refine Zm ?_
   refine Zv (.bool true) (fun _ fr => x_lss rfl (fr.ev rfl) rfl rfl) ?_
   refine Zm ?_
   refine Zs ?_
   refine Zs ?_
   refine Zs ?_
   refine Zs ?_
   refine Zs ?_
   refine Zs ?_
   refine Zs ?_
   refine Zpt ?_
   refine Znn ?_
   refine Zct ?_
   refine Zsr ?_
   replace B4 := B4.new hN17
   refine ZE rcE ag42 (B4.rangeE rcE) ?_
   replace B9 := B9.new hN17
   refine ZsS sz42 (rcE.all _) B9 (rcE.size _) (rcE.size _) fun w18 hO19 hBq => ?_
   replace B9 := hBq
   clear hBq
   refine Za ?_
   refine Znn ?_
   refine Zrt ?_
   refine Zr1 ?_
   refine Zre rfl [_, _] ⟨⟨_, rfl, loadV_E (E := rcE) ag42 rfl (B9.rangeE rcE)⟩, rfl, trivial⟩ ?_
   have hq : rPutF (RD.mk id n ways L ak al aw gv gx) addr width value = ((RD.mk id n ways L (ak) al (aw) (gv) gx), 232) := by unfold rPutF; rw [if_neg (show ¬ rightA addr width = false by rw [hrt]; decide), if_pos (show stateOf L (addr / 16) < 2 by rw [state_no ⟨hf, hno⟩]; decide)]
   replace hF := ((hF.trNew hN8).trNew hN17).loc hO19 (.inr g_b6)
   replace hV := (hV.new hN17).only hO19 (Apart.ne1 ap_A_b6)
   exact ⟨_, rfl, refP_mk (r' := (RD.mk id n ways L (ak) al (aw) (gv) gx)) hq hV (fun g hg => .inl hg) hF⟩
  ·intro a fr
   rw [hf] at fr
   revert a
   have hi0 : ¬ ((i : Nat) : Int) < 0 := by omega
   have hi1 : 0 ≤ ((i : Nat) : Int) := by omega
   refine Zrg ?_
   refine Zm ?_
   refine Zv (.bool false) (fun _ fr => x_lss rfl (fr.ev rfl) rfl (decide_eq_false hi0)) ?_
   refine Zm ?_
   refine Zf fo42_3 ?_
   replace B4 := B4.new hN17
   refine Zd (v := .slice A L.length cap) pl40 (B4.cell 3 rfl) ?_
   refine Zm ?_
   replace hV := hV.new hN17
   obtain ⟨g20, o21, hA22⟩ := (hV).some_ (by omega)
   refine Zv (.pointer (some ⟨g20, o21 + i * 18, none⟩)) (fun _ fr => x_indexV Try.underlying40 sz39 rfl (fr.ev rfl) hA22 (fr.ev rfl) (by omega) rfl) ?_
   refine Zf fo39_1 ?_
   refine Zd (v := .int .i64 ((L.getD i ln0).state)) pl36 (range_cell ((hV).elem hA22 i ln0 (by omega)) 1 rfl rfl) ?_
   refine Zv _ (fun _ fr => x_lss rfl (fr.ev rfl) rfl rfl) ?_
   refine Zpf ?_
   refine Znn ?_
   refine Zcd (fun hc23 => ?_) (fun hc23 => ?_)
   ·have hc23 := of_decide_eq_true hc23
    refine Zsr ?_
    refine ZE rcE ag42 (B4.rangeE rcE) ?_
    replace B9 := B9.new hN17
    refine ZsS sz42 (rcE.all _) B9 (rcE.size _) (rcE.size _) fun w24 hO25 hBq => ?_
    replace B9 := hBq
    clear hBq
    refine Za ?_
    refine Znn ?_
    refine Zrt ?_
    refine Zr1 ?_
    refine Zre rfl [_, _] ⟨⟨_, rfl, loadV_E (E := rcE) ag42 rfl (B9.rangeE rcE)⟩, rfl, trivial⟩ ?_
    have hq : rPutF (RD.mk id n ways L ak al aw gv gx) addr width value = ((RD.mk id n ways L (ak) al (aw) (gv) gx), 232) := by unfold rPutF; rw [if_neg (show ¬ rightA addr width = false by rw [hrt]; decide), if_pos (show stateOf L (addr / 16) < 2 by rw [state_at hi hin hall]; exact hc23)]
    replace hF := ((hF.trNew hN8).trNew hN17).loc hO25 (.inr g_b6)
    replace hV := hV.only hO25 (Apart.ne1 ap_A_b6)
    exact ⟨_, rfl, refP_mk (r' := (RD.mk id n ways L (ak) al (aw) (gv) gx)) hq hV (fun g hg => .inl hg) hF⟩
   ·have hc23 := of_decide_eq_false hc23
    refine Zsk ?_
    refine Znx ?_
    refine Zsr ?_
    refine Zf fo42_3 ?_
    refine Zd (v := .slice A L.length cap) pl40 (B4.cell 3 rfl) ?_
    refine Zm ?_
    refine Zv (.pointer (some ⟨g20, o21 + i * 18, none⟩)) (fun _ fr => x_indexV Try.underlying40 sz39 rfl (fr.ev rfl) hA22 (fr.ev rfl) (by omega) rfl) ?_
    refine ZE lnE ag39 ((hV).elem hA22 i ln0 (by omega)) ?_
    refine Zna (z := zv1) (cs := lnE.arr ln0) (by kernel_rfl) fun b26 w27 hN28 B29 hb30 => ?_
    have ap_A_b26 : Apart A b26 := hV.apart hb30
    have ne_b1_b26 : NE b1 b26 := NE.mk (Nat.lt_of_lt_of_le B4.lt hb30)
    replace B9 := B9.new hN17
    have ne_b6_b26 : NE b6 b26 := NE.mk (Nat.lt_of_lt_of_le B9.lt hb30)
    replace hF := (hF.trNew hN8).trNew hN17
    have g_b26 := Nat.le_trans hF.size hb30
    refine ZsS sz39 (lnE.all _) B29 (lnE.size _) (lnE.size _) fun w31 hO32 hBq => ?_
    replace B29 := hBq
    clear hBq
    refine Znn ?_
    refine Zsq ?_
    refine Zsr ?_
    refine Za ?_
    refine Znn ?_
    refine Zbl ?_
    intro a fr
    rw [show (Value.int .u32 value) = .int .u32 (value / 256 ^ 0) by simp] at fr
    revert a
    intro a fr
    replace hV := (hV.new hN28).only hO32 (Apart.ne1 ap_A_b26)
    replace B4 := (B4.new hN28).only hO32 ne_b1_b26
    replace B9 := (B9.new hN28).only hO32 ne_b6_b26
    replace hF := (hF.trNew hN28).loc hO32 (.inr g_b26)
    refine fx_loop (fun nM a wL => ∃ j : Nat, nM = (width - j).toNat ∧ Fr (60, []) [(1, .int .u32 addr), (2, .int .i64 width), (4, .pointer (some ⟨b1, 0, none⟩)), (8, .pointer (some ⟨b6, 0, none⟩)), (11, .pointer (some ⟨b26, 0, none⟩)), (3, .int .u32 (value / 256 ^ j)), (12, .int .i64 ((j : Nat) : Int))] a ∧ Only (fun _ => False) w wL ∧ View lnE wL A cap L ∧ Blk wL b1 42 (rcE.arr (RC.mk id ((n : Nat) : Int) ways A L.length cap (ak) al (aw) (gv) gx)) ∧ Blk wL b6 42 (rcE.arr rc0) ∧ Blk wL b26 39 (lnE.arr { (L.getD i ln0) with bs := wrB (L.getD i ln0).bs (addr % 16).toNat value j }) ∧ ((j : Nat) : Int) ≤ width) (n0 := _) ⟨0, rfl, fr.sub ⟨rfl, rfl, rfl, rfl, rfl, rfl, rfl, trivial⟩, hF, hV, B4, B9, B29, by omega⟩ ?_
    clear fr a
    rintro n34 a w33 ⟨j, rfl, fr, hF, hV, B4, B9, B29, hj⟩
    revert a
    refine Zsq ?_
    refine Zsr ?_
    refine Zm ?_
    refine Zm ?_
    refine Zv _ (fun _ fr => x_lss rfl (fr.ev rfl) (fr.ev rfl) rfl) ?_
    refine Znn ?_
    refine Zcd (fun hc35 => ?_) (fun hc35 => ?_)
    ·have hc35 := of_decide_eq_true hc35
     refine Zsk ?_
     refine Znx ?_
     refine Zsq ?_
     refine Zbl ?_
     refine Zsr ?_
     refine Zm ?_
     refine Zv (.int .u32 (addr % 16)) (fun _ fr => x_rem rfl (fr.ev rfl) rfl (by decide) (rem_nn (by omega))) ?_
     refine Zv _ (fun _ fr => x_convert Try.underlying32 Try.underlying3 rfl (fr.ev rfl) (i64w (r := addr % 16) rfl (by omega))) ?_
     refine Zm ?_
     refine Zv _ (fun _ fr => x_add rfl (fr.ev rfl) (fr.ev rfl) (i64w (r := ((((addr % 16).toNat) + j : Nat) : Int)) (by omega) (by omega))) ?_
     refine Zm ?_
     refine Zv _ (fun _ fr => x_rem rfl (fr.ev rfl) rfl (by decide) (rem_nn (div_bd hval j).1)) ?_
     refine Zv (.int .u8 (value / 256 ^ j % 256)) (fun _ fr => x_convert Try.underlying32 Try.underlying5 rfl (fr.ev rfl) (u8w rfl (by omega))) ?_
     refine Zf fo39_2 ?_
     refine Zv (.pointer (some ⟨b26, 2 + (((addr % 16).toNat) + j), none⟩)) (fun _ fr => x_indexArr Try.underlying22 sz16 rfl (fr.ev rfl) (fr.ev rfl) (by omega) (show 2 + (((addr % 16).toNat) + j) * 1 = 2 + (((addr % 16).toNat) + j) by omega)) ?_
     refine Zs1 (cs' := lnE.arr { (L.getD i ln0) with bs := wrB (L.getD i ln0).bs (addr % 16).toNat value (j + 1) }) sz5 B29 (by rw [lnE.size]; show _ < 18; omega) (ln_setb (L.getD i ln0) (addr % 16).toNat j value (by omega)) fun w36 hO37 hBq => ?_
     replace B29 := hBq
     clear hBq
     refine Znn ?_
     refine Zrg ?_
     refine Zm ?_
     refine Zv (.int .u32 (value / 256 ^ (j + 1))) (fun _ fr => x_quo rfl (fr.ev rfl) rfl (by decide) (by rw [u32q (div_bd hval j) (by decide), div_next])) ?_
     refine Za ?_
     refine Znl ?_
     refine Zb ?_
     refine Znx ?_
     refine Zrg ?_
     refine Zm ?_
     refine Zv _ (fun _ fr => x_add rfl (fr.ev rfl) rfl (i64w (r := ((j + 1 : Nat) : Int)) (by omega) (by omega))) ?_
     refine Za ?_
     intro a fr
     refine wpList_nil ?_
     refine fx_next ?_
     replace hV := hV.only hO37 (Apart.ne1 ap_A_b26)
     replace B4 := B4.only hO37 ne_b1_b26
     replace B9 := B9.only hO37 ne_b6_b26
     replace hF := hF.loc hO37 (.inr g_b26)
     exact ⟨_, by omega, (j + 1), rfl, fr.sub ⟨rfl, rfl, rfl, rfl, rfl, rfl, rfl, trivial⟩, hF, hV, B4, B9, B29, by omega⟩
    ·have hc35 := of_decide_eq_false hc35
     refine Zex ?_
     refine Zxt ?_
     refine Zxt ?_
     refine Zxx ?_
     refine Znx ?_
     refine Zsr ?_
     refine Zf fo39_1 ?_
     refine Zs1 (cs' := lnE.arr { { (L.getD i ln0) with bs := wrB (L.getD i ln0).bs (addr % 16).toNat value j } with state := 3 }) sz36 B29 (by rw [lnE.size]; decide) (ln_setstate _ _) fun w38 hO39 hBq => ?_
     replace B29 := hBq
     clear hBq
     refine Znn ?_
     refine Zsq ?_
     obtain rfl : j = width.toNat := by omega
     replace B29 : Blk w38 b26 39 (lnE.arr (wrLn (L.getD i ln0) addr width value)) := B29
     refine Zrg ?_
     replace B4 := B4.only hO39 ne_b1_b26
     refine ZE rcE ag42 (B4.rangeE rcE) ?_
     refine ZE lnE ag39 (B29.rangeE lnE) ?_
     replace hV := hV.only hO39 (Apart.ne1 ap_A_b26)
     refine Zk (args := #[.agg (rcE.arr (RC.mk id ((n : Nat) : Int) ways A L.length cap (ak) al (aw) (gv) gx)), .agg (lnE.arr (wrLn (L.getD i ln0) addr width value))]) cf59 (rcwith_c (wrLn (L.getD i ln0) addr width value) (hV) (by omega) (by omega)) ?_
     rintro v w44 ⟨A40, cap41, rfl, V42, hA43, hN45⟩
     replace B9 := B9.only hO39 ne_b6_b26
     have ap_A40_b6 : Apart A40 b6 := new_apart hA43 B9.lt
     replace hF := hF.loc hO39 (.inr g_b26)
     have gA_A40 := gA_new hF hA43
     replace B9 := B9.new hN45
     refine ZsS sz42 (rcE.all _) B9 (rcE.size _) (rcE.size _) fun w46 hO47 hBq => ?_
     replace B9 := hBq
     clear hBq
     refine Za ?_
     refine Znn ?_
     refine Zrt ?_
     refine Zre rfl [_, _] ⟨⟨_, rfl, loadV_E (E := rcE) ag42 rfl (B9.rangeE rcE)⟩, rfl, trivial⟩ ?_
     have hq : rPutF (RD.mk id n ways L ak al aw gv gx) addr width value = ((RD.mk id n ways (withF n L (wrLn (L.getD i ln0) addr width value)) (ak) al (aw) (gv) gx), 0) := by unfold rPutF; rw [if_neg (show ¬ rightA addr width = false by rw [hrt]; decide), if_neg (show ¬ stateOf L (addr / 16) < 2 by rw [state_at hi hin hall]; exact hc23)]; dsimp only; rw [get_at hi hin hall]; rfl
     replace hF := (hF.trNew hN45).loc hO47 (.inr g_b6)
     replace V42 := V42.only hO47 (Apart.ne1 ap_A40_b6)
     exact ⟨_, rfl, refP_mk (r' := (RD.mk id n ways (withF n L (wrLn (L.getD i ln0) addr width value)) (ak) al (aw) (gv) gx)) hq V42 (fun g hg => .inr ((gA_A40 g hg).resolve_left (fun h => h))) hF⟩
end Go.Proofs.Ytflnlmibkbojcaa
namespace Go.Proofs.Ytflnlmibkbojcaa
open Go.RowKit
set_option maxRecDepth 100000 in
set_option maxHeartbeats 4000000 in
theorem rcout_c (x : Ln) {w : World} {id : Int} {n : Nat} {ways : Int} {A : Option Addr} {cap : Nat} {L : List Ln} {ak : Bool} {al : Int} {aw gv : Bool} {gx : Ln} (hV : View lnE w A cap L) (hn : 0 < n ∧ n ≤ 64) (hl : L.length ≤ 1000)  : Calls Try.prog 62 #[.agg (rcE.arr (RC.mk id ((n : Nat) : Int) ways A L.length cap (ak) al (aw) (gv) gx)), .agg (lnE.arr x)] w (Ret fun v w' => RefO w A (rOutF (RD.mk id n ways L ak al aw gv gx) x) v w') := by
 have hVl := hV.len
 unfold maxLen at hVl
 have hxn := x.hn
 have hF := Only.refl (fun _ => False) w
 refine Zen 35 Try.func62 ?_
 refine Zsr ?_
 refine Znb (cs := rcE.arr (RC.mk id ((n : Nat) : Int) ways A L.length cap (ak) al (aw) (gv) gx)) fun b1 w2 hN3 B4 hb5 => ?_
 have g_b1 := Nat.le_trans hF.size hb5
 refine Znb (cs := lnE.arr x) fun b6 w7 hN8 B9 hb10 => ?_
 have ne_b1_b6 : NE b1 b6 := NE.mk (Nat.lt_of_lt_of_le B4.lt hb10)
 refine Zna (z := zv4) (cs := rcE.arr rc0) (by kernel_rfl) fun b11 w12 hN13 B14 hb15 => ?_
 replace hV := (hV.new hN3).new hN8
 have ap_A_b11 : Apart A b11 := hV.apart hb15
 replace B4 := B4.new hN8
 have ne_b1_b11 : NE b1 b11 := NE.mk (Nat.lt_of_lt_of_le B4.lt hb15)
 replace hF := (hF.trNew hN3).trNew hN8
 have g_b11 := Nat.le_trans hF.size hb15
 refine Za ?_
 refine Za ?_
 refine Znn ?_
 refine Zsq ?_
 refine Zsr ?_
 refine Zf fo39_1 ?_
 replace B9 := B9.new hN13
 refine Zd (v := .int .i64 x.state) pl36 (B9.cell 1 rfl) ?_
 refine Zv _ (fun _ fr => x_eql rfl (fr.ev rfl) rfl rfl) ?_
 refine Znn ?_
 refine Zcd (fun hc16 => ?_) (fun hc16 => ?_)
 ·have hc16 := of_decide_eq_true hc16
  refine Zsr ?_
  replace B4 := B4.new hN13
  refine ZE rcE ag42 (B4.rangeE rcE) ?_
  refine Zf fo39_0 ?_
  refine Zd (v := .int .u32 x.num) pl32 (B9.cell 0 rfl) ?_
  replace hV := hV.new hN13
  refine Zk (args := #[.agg (rcE.arr (RC.mk id ((n : Nat) : Int) ways A L.length cap (ak) al (aw) (gv) gx)), .int .u32 x.num]) cf66 (rcwithout_c x.num (hV) (by omega) (by omega)) ?_
  rintro v w21 ⟨A17, cap18, rfl, V19, hA20, hN22⟩
  have ap_A17_b11 : Apart A17 b11 := new_apart hA20 B14.lt
  replace hF := hF.trNew hN13
  have gA_A17 := gA_new hF hA20
  replace B14 := B14.new hN22
  refine ZsS sz42 (rcE.all _) B14 (rcE.size _) (rcE.size _) fun w23 hO24 hBq => ?_
  replace B14 := hBq
  clear hBq
  refine Za ?_
  refine Za ?_
  refine Znn ?_
  refine Zrt ?_
  refine Zr1 ?_
  refine Zre rfl [_, _, _] ⟨⟨_, rfl, loadV_E (E := rcE) ag42 rfl (B14.rangeE rcE)⟩, rfl, rfl, trivial⟩ ?_
  have hq : rOutF (RD.mk id n ways L ak al aw gv gx) x = ((RD.mk id n ways (dropL L x.num) (ak) al (aw) (gv) gx), ([] : List Msg), true) := by unfold rOutF; simp [hc16]
  replace hF := (hF.trNew hN22).loc hO24 (.inr g_b11)
  replace V19 := V19.only hO24 (Apart.ne1 ap_A17_b11)
  exact ⟨_, rfl, refO_mk (r' := (RD.mk id n ways (dropL L x.num) (ak) al (aw) (gv) gx)) (A' := A17) (cap' := cap18) (B := none) (cB := 0) (l := ([] : List Msg)) hq V19 Own.nil (fun g hg => .inr ((gA_A17 g hg).resolve_left (fun h => h))) (fun g hg => absurd hg (apart_none g)) hF (fun k _ h => apart_none k h)⟩
 ·have hc16 := of_decide_eq_false hc16
  refine Zsk ?_
  refine Znx ?_
  refine Zsq ?_
  refine Zsr ?_
  refine Zf fo42_7 ?_
  replace B4 := B4.new hN13
  refine Zd (v := .bool (gv)) pl4 (B4.cell 7 rfl) ?_
  refine Znn ?_
  refine Zcd (fun hc25 => ?_) (fun hc25 => ?_)
  ·refine Zsr ?_
   refine ZE rcE ag42 (B4.rangeE rcE) ?_
   refine ZsS sz42 (rcE.all _) B14 (rcE.size _) (rcE.size _) fun w26 hO27 hBq => ?_
   replace B14 := hBq
   clear hBq
   refine Za ?_
   refine Za ?_
   refine Znn ?_
   refine Zrt ?_
   refine Zr1 ?_
   refine Zre rfl [_, _, _] ⟨⟨_, rfl, loadV_E (E := rcE) ag42 rfl (B14.rangeE rcE)⟩, rfl, rfl, trivial⟩ ?_
   have hq : rOutF (RD.mk id n ways L ak al aw gv gx) x = ((RD.mk id n ways L (ak) al (aw) (gv) gx), ([] : List Msg), false) := by unfold rOutF; simp [hc16, hc25]; try rfl
   replace hV := (hV.new hN13).only hO27 (Apart.ne1 ap_A_b11)
   replace hF := (hF.trNew hN13).loc hO27 (.inr g_b11)
   exact ⟨_, rfl, refO_mk (r' := (RD.mk id n ways L (ak) al (aw) (gv) gx)) (A' := A) (cap' := cap) (B := none) (cB := 0) (l := ([] : List Msg)) hq hV Own.nil (fun g hg => .inl hg) (fun g hg => absurd hg (apart_none g)) hF (fun k _ h => apart_none k h)⟩
  ·refine Zsk ?_
   refine Znx ?_
   refine Zsr ?_
   refine ZE rcE ag42 (B4.rangeE rcE) ?_
   refine Zf fo39_0 ?_
   refine Zd (v := .int .u32 x.num) pl32 (B9.cell 0 rfl) ?_
   replace hV := hV.new hN13
   refine Zk (args := #[.agg (rcE.arr (RC.mk id ((n : Nat) : Int) ways A L.length cap (ak) al (aw) (gv) gx)), .int .u32 x.num]) cf66 (rcwithout_c x.num (hV) (by omega) (by omega)) ?_
   rintro v w32 ⟨A28, cap29, rfl, V30, hA31, hN33⟩
   have ap_A28_b1 : Apart A28 b1 := new_apart hA31 B4.lt
   have ap_A28_b11 : Apart A28 b11 := new_apart hA31 B14.lt
   replace hF := hF.trNew hN13
   have gA_A28 := gA_new hF hA31
   replace B4 := B4.new hN33
   refine ZsS sz42 (rcE.all _) B4 (rcE.size _) (rcE.size _) fun w34 hO35 hBq => ?_
   replace B4 := hBq
   clear hBq
   refine Znn ?_
   refine Zsq ?_
   refine ZhT (n := 3) 3 (fun w => Blk w b6 39 (lnE.arr x) ∧ True) ?_
   intro w36 hN37
   replace B9 := ((B9.new hN33).only hO35 ne_b1_b6.symm).new hN37
   have hS9 := And.intro B9 trivial
   refine ZhE 0 lnE ag39 hS9 (fun _ ⟨B9, _⟩ => (B9.rangeE lnE)) ?_
   refine Zhf 1 fo42_7 hS9 ?_
   refine Zh1 2 ?_
   replace B4 := B4.new hN37
   refine Zs1 (cs' := rcE.arr (RC.mk id ((n : Nat) : Int) ways A28 ((dropL L x.num).length) cap29 (ak) al (aw) true gx)) sz4 B4 (by rw [rcE.size]; decide) (rc_set7 _ _) fun w38 hO39 hBq => ?_
   replace B4 := hBq
   clear hBq
   replace B9 := B9.only hO39 ne_b1_b6.symm
   refine Zhb ⟨B9, trivial⟩ ?_
   refine Zhn ?_
   refine Ztl ?_
   refine Zf fo42_8 ?_
   intro a fr
   refine fx_storePart (E := rcE) (E2 := lnE) (q := 8) (m := (RC.mk id ((n : Nat) : Int) ways A28 ((dropL L x.num).length) cap29 (ak) al (aw) true gx)) (m' := (RC.mk id ((n : Nat) : Int) ways A28 ((dropL L x.num).length) cap29 (ak) al (aw) true x)) (z := x) sz39 rfl rfl rfl (fr.ev rfl) (fr.ev rfl) B4 (by decide) (rc_set8 _ _) fun w40 hO41 hBq => ?_
   revert a
   replace B4 := hBq
   clear hBq
   refine Znn ?_
   refine Zsr ?_
   refine ZE rcE ag42 (B4.rangeE rcE) ?_
   refine Zf fo39_0 ?_
   replace B9 := B9.only hO41 ne_b1_b6.symm
   refine Zd (v := .int .u32 x.num) pl32 (B9.cell 0 rfl) ?_
   refine Zk (args := #[.agg (rcE.arr (RC.mk id ((n : Nat) : Int) ways A28 ((dropL L x.num).length) cap29 (ak) al (aw) true x)), .int .i64 3, .int .u32 x.num]) cf64 (rcmsg_c 3 x.num (by omega) _) ?_
   rintro v w42 ⟨rfl, hN43⟩
   refine Zna (z := zv3) (cs := msgE.arr msg0) (by kernel_rfl) fun b44 w45 hN46 B47 hb48 => ?_
   replace B9 := B9.new hN43
   have ne_b6_b44 : NE b6 b44 := NE.mk (Nat.lt_of_lt_of_le B9.lt hb48)
   replace B14 := (((((B14.new hN33).only hO35 ne_b1_b11.symm).new hN37).only hO39 ne_b1_b11.symm).only hO41 ne_b1_b11.symm).new hN43
   have ne_b11_b44 : NE b11 b44 := NE.mk (Nat.lt_of_lt_of_le B14.lt hb48)
   replace V30 := ((((V30.only hO35 (Apart.ne1 ap_A28_b1)).new hN37).only hO39 (Apart.ne1 ap_A28_b1)).only hO41 (Apart.ne1 ap_A28_b1)).new hN43
   have ap_A28_b44 : Apart A28 b44 := V30.apart hb48
   replace B4 := B4.new hN43
   have ne_b1_b44 : NE b1 b44 := NE.mk (Nat.lt_of_lt_of_le B4.lt hb48)
   replace hF := (((((hF.trNew hN33).loc hO35 (.inr g_b1)).trNew hN37).loc hO39 (.inr g_b1)).loc hO41 (.inr g_b1)).trNew hN43
   have g_b44 := Nat.le_trans hF.size hb48
   refine ZsS sz35 (msgE.all _) B47 (msgE.size _) (msgE.size _) fun w49 hO50 hBq => ?_
   replace B47 := hBq
   clear hBq
   refine Znn ?_
   refine Zsr ?_
   refine Zf fo39_2 ?_
   replace B9 := (B9.new hN46).only hO50 ne_b6_b44
   refine ZE (p := x.bs) bsE ag22 (B9.part (ln_bs _)) ?_
   refine Zf fo35_4 ?_
   intro a fr
   refine fx_storePart (E := msgE) (E2 := bsE) (q := 4) (m := (mkM 3 id 4 x.num)) (m' := { (mkM 3 id 4 x.num) with bs := x.bs }) (z := x.bs) sz22 rfl rfl rfl (fr.ev rfl) (fr.ev rfl) B47 (by decide) (msg_setbs _ _) fun w51 hO52 hBq => ?_
   revert a
   replace B47 := hBq
   clear hBq
   refine Znn ?_
   refine Zsq ?_
   refine ZhT (n := 4) 4 (fun w => Blk w b1 42 (rcE.arr (RC.mk id ((n : Nat) : Int) ways A28 ((dropL L x.num).length) cap29 (ak) al (aw) true x)) ∧ Blk w b44 35 (msgE.arr { (mkM 3 id 4 x.num) with bs := x.bs }) ∧ True) ?_
   intro w53 hN54
   replace B4 := (((B4.new hN46).only hO50 ne_b1_b44).only hO52 ne_b1_b44).new hN54
   replace B47 := B47.new hN54
   have hS9 := And.intro B4 (And.intro B47 trivial)
   refine ZhE 0 rcE ag42 hS9 (fun _ ⟨B4, _⟩ => (B4.rangeE rcE)) ?_
   refine ZhE 1 msgE ag35 hS9 (fun _ ⟨_, B47, _⟩ => (B47.rangeE msgE)) ?_
   refine Zh2 2 3 ?_ ?_
   ·intro a fr
    refine fx_build1 (E := msgE) (p := { (mkM 3 id 4 x.num) with bs := x.bs }) elMsg (by decide) fr rfl rfl (by decide) rfl (fr.ev rfl) ?_
    clear fr a
    intro A55 w56 hN57 O58 hA59
    replace B14 := (((B14.new hN46).only hO50 ne_b11_b44).only hO52 ne_b11_b44).new hN54
    have ap_A55_b11 : Apart A55 b11 := new_apart hA59 B14.lt
    replace V30 := (((V30.new hN46).only hO50 (Apart.ne1 ap_A28_b44)).only hO52 (Apart.ne1 ap_A28_b44)).new hN54
    have ap2_A28_A55 : Apart2 A28 A55 := (new_apart2 hA59 fun _ hg => V30.lt hg).symm
    replace hF := (((hF.trNew hN46).loc hO50 (.inr g_b44)).loc hO52 (.inr g_b44)).trNew hN54
    have gA_A55 := gA_new hF hA59
    replace B4 := B4.new hN57
    replace B47 := B47.new hN57
    refine Zhb ⟨B4, B47, trivial⟩ ?_
    refine Zh1 3 ?_
    replace B14 := B14.new hN57
    refine ZsS sz42 (rcE.all _) B14 (rcE.size _) (rcE.size _) fun w60 hO61 hBq => ?_
    replace B14 := hBq
    clear hBq
    replace B4 := B4.only hO61 ne_b1_b11
    replace B47 := B47.only hO61 ne_b11_b44.symm
    refine Zhb ⟨B4, B47, trivial⟩ ?_
    refine Zhn ?_
    refine Ztl ?_
    refine Za ?_
    refine Za ?_
    refine Znn ?_
    refine Zrt ?_
    refine Zre rfl [_, _, _] ⟨⟨_, rfl, loadV_E (E := rcE) ag42 rfl (B14.rangeE rcE)⟩, rfl, rfl, trivial⟩ ?_
    have hq : rOutF (RD.mk id n ways L ak al aw gv gx) x = ((RD.mk id n ways (dropL L x.num) (ak) al (aw) true x), [{ (mkM 3 id 4 x.num) with bs := x.bs }], true) := by unfold rOutF; simp [hc16, hc25]; try rfl
    replace V30 := (V30.new hN57).only hO61 (Apart.ne1 ap_A28_b11)
    replace hF := (hF.trNew hN57).loc hO61 (.inr g_b11)
    replace O58 := O58.only hO61 (Apart.ne1 ap_A55_b11)
    exact ⟨_, rfl, refO_mk (r' := (RD.mk id n ways (dropL L x.num) (ak) al (aw) true x)) (A' := A28) (cap' := cap29) (B := A55) (cB := 1) (l := [{ (mkM 3 id 4 x.num) with bs := x.bs }]) hq V30 O58 (fun g hg => .inr ((gA_A28 g hg).resolve_left (fun h => h))) (fun g hg => (gA_A55 g hg).resolve_left (fun h => h)) hF ap2_A28_A55⟩
   ·replace B14 := (((B14.new hN46).only hO50 ne_b11_b44).only hO52 ne_b11_b44).new hN54
    refine ZsS sz42 (rcE.all _) B14 (rcE.size _) (rcE.size _) fun w62 hO63 hBq => ?_
    replace B14 := hBq
    clear hBq
    replace B4 := B4.only hO63 ne_b1_b11
    replace B47 := B47.only hO63 ne_b11_b44.symm
    refine Zhb ⟨B4, B47, trivial⟩ ?_
    refine Zh1 2 ?_
    intro a fr
    refine fx_build1 (E := msgE) (p := { (mkM 3 id 4 x.num) with bs := x.bs }) elMsg (by decide) fr rfl rfl (by decide) rfl (fr.ev rfl) ?_
    clear fr a
    intro A64 w65 hN66 O67 hA68
    replace V30 := ((((V30.new hN46).only hO50 (Apart.ne1 ap_A28_b44)).only hO52 (Apart.ne1 ap_A28_b44)).new hN54).only hO63 (Apart.ne1 ap_A28_b11)
    have ap2_A28_A64 : Apart2 A28 A64 := (new_apart2 hA68 fun _ hg => V30.lt hg).symm
    replace hF := ((((hF.trNew hN46).loc hO50 (.inr g_b44)).loc hO52 (.inr g_b44)).trNew hN54).loc hO63 (.inr g_b11)
    have gA_A64 := gA_new hF hA68
    replace B4 := B4.new hN66
    replace B47 := B47.new hN66
    refine Zhb ⟨B4, B47, trivial⟩ ?_
    refine Zhn ?_
    refine Ztl ?_
    refine Za ?_
    refine Za ?_
    refine Znn ?_
    refine Zrt ?_
    replace B14 := B14.new hN66
    refine Zre rfl [_, _, _] ⟨⟨_, rfl, loadV_E (E := rcE) ag42 rfl (B14.rangeE rcE)⟩, rfl, rfl, trivial⟩ ?_
    have hq : rOutF (RD.mk id n ways L ak al aw gv gx) x = ((RD.mk id n ways (dropL L x.num) (ak) al (aw) true x), [{ (mkM 3 id 4 x.num) with bs := x.bs }], true) := by unfold rOutF; simp [hc16, hc25]; try rfl
    replace V30 := V30.new hN66
    replace hF := hF.trNew hN66
    exact ⟨_, rfl, refO_mk (r' := (RD.mk id n ways (dropL L x.num) (ak) al (aw) true x)) (A' := A28) (cap' := cap29) (B := A64) (cB := 1) (l := [{ (mkM 3 id 4 x.num) with bs := x.bs }]) hq V30 O67 (fun g hg => .inr ((gA_A28 g hg).resolve_left (fun h => h))) (fun g hg => (gA_A64 g hg).resolve_left (fun h => h)) hF ap2_A28_A64⟩
set_option maxRecDepth 100000 in
set_option maxHeartbeats 4000000 in
theorem choice_c (pick : Int) {n : Nat} (hn : 0 < n) (hn2 : n ≤ 1000000) (w : World) : Calls Try.prog 63 #[.int .i64 pick, .int .i64 ((n : Nat) : Int)] w (Ret fun v w' => v = .int .i64 ((pickAt pick n : Nat) : Int) ∧ w' = w) := by
 refine Zen 15 Try.func63 ?_
 refine Zsr ?_
 refine Za ?_
 refine Znn ?_
 refine Zsr ?_
 refine Zm ?_
 refine Zm ?_
 refine Zv (.int .i64 (Int.tmod pick ((n : Nat) : Int))) (fun _ fr => x_rem rfl (fr.ev rfl) (fr.ev rfl) (by omega) rfl) ?_
 refine Za ?_
 refine Znn ?_
 refine Zsq ?_
 refine Zsq ?_
 have hb := tmod_bd pick n hn
 refine Zrg ?_
 refine Zm ?_
 refine Zv _ (fun _ fr => x_lss rfl (fr.ev rfl) rfl rfl) ?_
 refine Znn ?_
 refine Zcd (fun hc1 => ?_) (fun hc1 => ?_)
 ·have hc1 := of_decide_eq_true hc1
  refine Zrg ?_
  refine Zm ?_
  refine Zm ?_
  refine Zv _ (fun _ fr => x_add rfl (fr.ev rfl) (fr.ev rfl) (i64w (r := Int.tmod pick ((n : Nat) : Int) + ((n : Nat) : Int)) (by omega) (by omega))) ?_
  refine Za ?_
  refine Znn ?_
  refine Zsr ?_
  refine Zm ?_
  refine Za ?_
  refine Znn ?_
  refine Zrt ?_
  refine Zre rfl [_] ⟨rfl, trivial⟩ ?_
  rw [← pick_neg hn hc1]
  exact ⟨_, rfl, rfl, rfl⟩
 ·have hc1 := of_decide_eq_false hc1
  refine Zsk ?_
  refine Znx ?_
  refine Zsr ?_
  refine Zm ?_
  refine Za ?_
  refine Znn ?_
  refine Zrt ?_
  refine Zre rfl [_] ⟨rfl, trivial⟩ ?_
  rw [← pick_pos hn hc1]
  exact ⟨_, rfl, rfl, rfl⟩
set_option maxRecDepth 100000 in
set_option maxHeartbeats 4000000 in
theorem rcevict_c (pick : Int) {w : World} {id : Int} {n : Nat} {ways : Int} {A : Option Addr} {cap : Nat} {L : List Ln} {ak : Bool} {al : Int} {aw gv : Bool} {gx : Ln} (hV : View lnE w A cap L) (hn : 0 < n ∧ n ≤ 64) (hl : L.length ≤ 1000)  : Calls Try.prog 26 #[.agg (rcE.arr (RC.mk id ((n : Nat) : Int) ways A L.length cap (ak) al (aw) (gv) gx)), .int .i64 pick] w (Ret fun v w' => RefE w A (rEvictF (RD.mk id n ways L ak al aw gv gx) pick) v w') := by
 have hVl := hV.len
 unfold maxLen at hVl
 have hF := Only.refl (fun _ => False) w
 refine Zen 31 Try.func26 ?_
 refine Zsr ?_
 refine Znb (cs := rcE.arr (RC.mk id ((n : Nat) : Int) ways A L.length cap (ak) al (aw) (gv) gx)) fun b1 w2 hN3 B4 hb5 => ?_
 refine Zna (z := zv4) (cs := rcE.arr rc0) (by kernel_rfl) fun b6 w7 hN8 B9 hb10 => ?_
 replace hV := hV.new hN3
 have ap_A_b6 : Apart A b6 := hV.apart hb10
 replace hF := hF.trNew hN3
 have g_b6 := Nat.le_trans hF.size hb10
 refine Za ?_
 refine Znn ?_
 refine Zsq ?_
 refine Zsr ?_
 refine Zf fo42_3 ?_
 replace B4 := B4.new hN8
 refine Zd (v := .slice A L.length cap) pl40 (B4.cell 3 rfl) ?_
 refine Zv _ (fun _ fr => x_len Try.underlying40 rfl (fr.ev rfl)) ?_
 refine Zv _ (fun _ fr => x_eql rfl (fr.ev rfl) rfl rfl) ?_
 refine Znn ?_
 refine Zcd (fun hc11 => ?_) (fun hc11 => ?_)
 ·have hc11 := of_decide_eq_true hc11
  refine Zsr ?_
  refine ZE rcE ag42 (B4.rangeE rcE) ?_
  refine ZsS sz42 (rcE.all _) B9 (rcE.size _) (rcE.size _) fun w12 hO13 hBq => ?_
  replace B9 := hBq
  clear hBq
  refine Za ?_
  refine Znn ?_
  refine Zrt ?_
  refine Zr1 ?_
  refine Zre rfl [_, _] ⟨⟨_, rfl, loadV_E (E := rcE) ag42 rfl (B9.rangeE rcE)⟩, rfl, trivial⟩ ?_
  have hL0 : L = [] := List.length_eq_zero_iff.1 (by have := hc11; omega)
  have hq : rEvictF (RD.mk id n ways L ak al aw gv gx) pick = ((RD.mk id n ways L (ak) al (aw) (gv) gx), ([] : List Msg)) := by unfold rEvictF; exact if_pos (c := (L = [])) hL0
  replace hV := (hV.new hN8).only hO13 (Apart.ne1 ap_A_b6)
  replace hF := (hF.trNew hN8).loc hO13 (.inr g_b6)
  exact ⟨_, rfl, refE_mk (r' := (RD.mk id n ways L (ak) al (aw) (gv) gx)) (A' := A) (cap' := cap) (B := none) (cB := 0) (l := ([] : List Msg)) hq hV View.nil (fun g hg => .inl hg) (fun g hg => absurd hg (apart_none g)) hF⟩
 ·have hc11 := of_decide_eq_false hc11
  refine Zsk ?_
  refine Znx ?_
  refine Zsq ?_
  have hpk0 := pickAt_lt pick L.length (by omega)
  refine ZhT (n := 18) 18 (fun w => View lnE w A cap L ∧ Blk w b1 42 (rcE.arr (RC.mk id ((n : Nat) : Int) ways A L.length cap (ak) al (aw) (gv) gx)) ∧ True) ?_
  intro w14 hN15
  replace hV := (hV.new hN8).new hN15
  replace B4 := B4.new hN15
  have hS9 := And.intro hV (And.intro B4 trivial)
  refine ZhE 0 rcE ag42 hS9 (fun _ ⟨_, B4, _⟩ => (B4.rangeE rcE)) ?_
  refine Zhf 1 fo42_3 hS9 ?_
  refine Zhl (v := .slice A L.length cap) 2 pl40 hS9 (fun _ ⟨_, B4, _⟩ => (B4.cell 3 rfl)) ?_
  refine Zhm 3 hS9 ?_
  refine Zhf 4 fo42_3 hS9 ?_
  refine Zhl (v := .slice A L.length cap) 5 pl40 hS9 (fun _ ⟨_, B4, _⟩ => (B4.cell 3 rfl)) ?_
  refine Zht 6 rfl _ hS9 (fun _ fr _ _ => x_len Try.underlying40 rfl (fr.ev rfl)) ?_
  refine Zh2 7 15 ?_ ?_
  ·refine Zk (args := #[.int .i64 pick, .int .i64 ((L.length : Nat) : Int)]) cf63 (choice_c pick (n := L.length) (by omega) (by omega) _) ?_
   rintro v w9 ⟨rfl, hw9⟩
   obtain rfl := hw9.symm
   refine Zhb ⟨hV, B4, trivial⟩ ?_
   obtain ⟨g18, o19, hA20⟩ := (hV).some_ (by omega)
   have hS9 := And.intro hV (And.intro B4 trivial)
   refine Zht 8 rfl (.pointer (some ⟨g18, o19 + (pickAt pick L.length) * 18, none⟩)) hS9 (fun _ fr _ _ => x_indexV Try.underlying40 sz39 rfl (fr.ev rfl) hA20 (fr.ev rfl) (by omega) rfl) ?_
   refine ZhE 9 lnE ag39 hS9 (fun _ ⟨hV, _⟩ => ((hV).elem hA20 (pickAt pick L.length) ln0 (by omega))) ?_
   refine Zh2 10 15 ?_ ?_
   ·refine Zk (args := #[.agg (rcE.arr (RC.mk id ((n : Nat) : Int) ways A L.length cap (ak) al (aw) (gv) gx)), .agg (lnE.arr (L.getD (pickAt pick L.length) ln0))]) cf62 (rcout_c (L.getD (pickAt pick L.length) ln0) (hV) (by omega) (by omega)) ?_
    rintro v w29 ⟨A21, cap22, B23, cB24, rfl, V25, O26, mv27, hB28, ap2_A21_B23, hN30⟩
    replace hF := (hF.trNew hN8).trNew hN15
    have mA_A21 : ∀ g, inA A21 g → inA A g ∨ w.heap.size ≤ g := fun g hg => (mv27 g hg).imp (fun h => h) (fun h => Nat.le_trans hF.size h)
    replace B9 := B9.new hN15
    have ap_A21_b6 : Apart A21 b6 := moved_apart mv27 ap_A_b6 B9.lt
    have ap_B23_b6 : Apart B23 b6 := new_apart hB28 B9.lt
    have gA_B23 := gA_new hF hB28
    have hol_A21 := rOutF_len (RD.mk id n ways L (ak) al (aw) (gv) gx) (L.getD (pickAt pick L.length) ln0)
    replace hV := hV.new hN30
    replace B4 := B4.new hN30
    refine Zhb ⟨hV, B4, trivial⟩ ?_
    have hS9 := And.intro hV (And.intro B4 trivial)
    refine Zhm 11 hS9 ?_
    refine Zhx 12 hS9 ?_
    refine Zhx 13 hS9 ?_
    refine Zhx 14 hS9 ?_
    refine Zh1 15 ?_
    refine Zna (z := zv4) (cs := rcE.arr rc0) (by kernel_rfl) fun b31 w32 hN33 B34 hb35 => ?_
    have ap_A_b31 : Apart A b31 := hV.apart hb35
    have ne_b1_b31 : NE b1 b31 := NE.mk (Nat.lt_of_lt_of_le B4.lt hb35)
    replace B9 := B9.new hN30
    have ne_b6_b31 : NE b6 b31 := NE.mk (Nat.lt_of_lt_of_le B9.lt hb35)
    have ap_A21_b31 : Apart A21 b31 := V25.apart hb35
    have ap_B23_b31 : Apart B23 b31 := O26.apart hb35
    replace hF := hF.trNew hN30
    have g_b31 := Nat.le_trans hF.size hb35
    replace hV := hV.new hN33
    replace B4 := B4.new hN33
    refine Zhb ⟨hV, B4, trivial⟩ ?_
    refine Zh1 16 ?_
    refine ZsS sz42 (rcE.all _) B34 (rcE.size _) (rcE.size _) fun w36 hO37 hBq => ?_
    replace B34 := hBq
    clear hBq
    replace hV := hV.only hO37 (Apart.ne1 ap_A_b31)
    replace B4 := B4.only hO37 ne_b1_b31
    refine Zhb ⟨hV, B4, trivial⟩ ?_
    have hS9 := And.intro hV (And.intro B4 trivial)
    refine Zha 17 hS9 ?_
    refine Zhn ?_
    refine Ztl ?_
    refine Za ?_
    refine Znn ?_
    refine Zsr ?_
    refine ZE rcE ag42 (B34.rangeE rcE) ?_
    refine Zm ?_
    replace B9 := (B9.new hN33).only hO37 ne_b6_b31
    refine ZsS sz42 (rcE.all _) B9 (rcE.size _) (rcE.size _) fun w38 hO39 hBq => ?_
    replace B9 := hBq
    clear hBq
    refine Za ?_
    refine Znn ?_
    refine Zrt ?_
    refine Zre rfl [_, _] ⟨⟨_, rfl, loadV_E (E := rcE) ag42 rfl (B9.rangeE rcE)⟩, rfl, trivial⟩ ?_
    have hL0 : ¬ L = [] := fun h => by have := hc11; rw [h] at this; exact this rfl
    have hq : rEvictF (RD.mk id n ways L ak al aw gv gx) pick = ((RD.mk id n ways ((rOutF (RD.mk id n ways L (ak) al (aw) (gv) gx) (L.getD (pickAt pick L.length) ln0)).1.M) (ak) al (aw) ((rOutF (RD.mk id n ways L (ak) al (aw) (gv) gx) (L.getD (pickAt pick L.length) ln0)).1.gv) ((rOutF (RD.mk id n ways L (ak) al (aw) (gv) gx) (L.getD (pickAt pick L.length) ln0)).1.gx)), (rOutF (RD.mk id n ways L (ak) al (aw) (gv) gx) (L.getD (pickAt pick L.length) ln0)).2.1) := by unfold rEvictF; exact if_neg (c := (L = [])) hL0
    replace V25 := ((V25.new hN33).only hO37 (Apart.ne1 ap_A21_b31)).only hO39 (Apart.ne1 ap_A21_b6)
    replace O26 := ((O26.new hN33).only hO37 (Apart.ne1 ap_B23_b31)).only hO39 (Apart.ne1 ap_B23_b6)
    replace hF := ((hF.trNew hN33).loc hO37 (.inr g_b31)).loc hO39 (.inr g_b6)
    exact ⟨_, rfl, refE_mk (r' := (RD.mk id n ways ((rOutF (RD.mk id n ways L (ak) al (aw) (gv) gx) (L.getD (pickAt pick L.length) ln0)).1.M) (ak) al (aw) ((rOutF (RD.mk id n ways L (ak) al (aw) (gv) gx) (L.getD (pickAt pick L.length) ln0)).1.gv) ((rOutF (RD.mk id n ways L (ak) al (aw) (gv) gx) (L.getD (pickAt pick L.length) ln0)).1.gx))) (A' := A21) (cap' := cap22) (B := B23) (cB := cB24) (l := (rOutF (RD.mk id n ways L (ak) al (aw) (gv) gx) (L.getD (pickAt pick L.length) ln0)).2.1) hq V25 (O26).view mA_A21 (fun g hg => (gA_B23 g hg).resolve_left (fun h => h)) hF⟩
   ·refine Zna (z := zv4) (cs := rcE.arr rc0) (by kernel_rfl) fun b40 w41 hN42 B43 hb44 => ?_
    have ap_A_b40 : Apart A b40 := hV.apart hb44
    have ne_b1_b40 : NE b1 b40 := NE.mk (Nat.lt_of_lt_of_le B4.lt hb44)
    replace B9 := B9.new hN15
    have ne_b6_b40 : NE b6 b40 := NE.mk (Nat.lt_of_lt_of_le B9.lt hb44)
    replace hF := (hF.trNew hN8).trNew hN15
    have g_b40 := Nat.le_trans hF.size hb44
    replace hV := hV.new hN42
    replace B4 := B4.new hN42
    refine Zhb ⟨hV, B4, trivial⟩ ?_
    refine Zh1 10 ?_
    refine Zk (args := #[.agg (rcE.arr (RC.mk id ((n : Nat) : Int) ways A L.length cap (ak) al (aw) (gv) gx)), .agg (lnE.arr (L.getD (pickAt pick L.length) ln0))]) cf62 (rcout_c (L.getD (pickAt pick L.length) ln0) (hV) (by omega) (by omega)) ?_
    rintro v w53 ⟨A45, cap46, B47, cB48, rfl, V49, O50, mv51, hB52, ap2_A45_B47, hN54⟩
    replace hF := hF.trNew hN42
    have mA_A45 : ∀ g, inA A45 g → inA A g ∨ w.heap.size ≤ g := fun g hg => (mv51 g hg).imp (fun h => h) (fun h => Nat.le_trans hF.size h)
    replace B9 := B9.new hN42
    have ap_A45_b6 : Apart A45 b6 := moved_apart mv51 ap_A_b6 B9.lt
    have ap_A45_b40 : Apart A45 b40 := moved_apart mv51 ap_A_b40 B43.lt
    have ap_B47_b6 : Apart B47 b6 := new_apart hB52 B9.lt
    have ap_B47_b40 : Apart B47 b40 := new_apart hB52 B43.lt
    have gA_B47 := gA_new hF hB52
    have hol_A45 := rOutF_len (RD.mk id n ways L (ak) al (aw) (gv) gx) (L.getD (pickAt pick L.length) ln0)
    replace hV := hV.new hN54
    replace B4 := B4.new hN54
    refine Zhb ⟨hV, B4, trivial⟩ ?_
    have hS9 := And.intro hV (And.intro B4 trivial)
    refine Zhm 11 hS9 ?_
    refine Zhx 12 hS9 ?_
    refine Zhx 13 hS9 ?_
    refine Zhx 14 hS9 ?_
    refine Zh1 16 ?_
    replace B43 := B43.new hN54
    refine ZsS sz42 (rcE.all _) B43 (rcE.size _) (rcE.size _) fun w55 hO56 hBq => ?_
    replace B43 := hBq
    clear hBq
    replace hV := hV.only hO56 (Apart.ne1 ap_A_b40)
    replace B4 := B4.only hO56 ne_b1_b40
    refine Zhb ⟨hV, B4, trivial⟩ ?_
    have hS9 := And.intro hV (And.intro B4 trivial)
    refine Zha 17 hS9 ?_
    refine Zhn ?_
    refine Ztl ?_
    refine Za ?_
    refine Znn ?_
    refine Zsr ?_
    refine ZE rcE ag42 (B43.rangeE rcE) ?_
    refine Zm ?_
    replace B9 := (B9.new hN54).only hO56 ne_b6_b40
    refine ZsS sz42 (rcE.all _) B9 (rcE.size _) (rcE.size _) fun w57 hO58 hBq => ?_
    replace B9 := hBq
    clear hBq
    refine Za ?_
    refine Znn ?_
    refine Zrt ?_
    refine Zre rfl [_, _] ⟨⟨_, rfl, loadV_E (E := rcE) ag42 rfl (B9.rangeE rcE)⟩, rfl, trivial⟩ ?_
    have hL0 : ¬ L = [] := fun h => by have := hc11; rw [h] at this; exact this rfl
    have hq : rEvictF (RD.mk id n ways L ak al aw gv gx) pick = ((RD.mk id n ways ((rOutF (RD.mk id n ways L (ak) al (aw) (gv) gx) (L.getD (pickAt pick L.length) ln0)).1.M) (ak) al (aw) ((rOutF (RD.mk id n ways L (ak) al (aw) (gv) gx) (L.getD (pickAt pick L.length) ln0)).1.gv) ((rOutF (RD.mk id n ways L (ak) al (aw) (gv) gx) (L.getD (pickAt pick L.length) ln0)).1.gx)), (rOutF (RD.mk id n ways L (ak) al (aw) (gv) gx) (L.getD (pickAt pick L.length) ln0)).2.1) := by unfold rEvictF; exact if_neg (c := (L = [])) hL0
    replace hF := ((hF.trNew hN54).loc hO56 (.inr g_b40)).loc hO58 (.inr g_b6)
    replace V49 := (V49.only hO56 (Apart.ne1 ap_A45_b40)).only hO58 (Apart.ne1 ap_A45_b6)
    replace O50 := (O50.only hO56 (Apart.ne1 ap_B47_b40)).only hO58 (Apart.ne1 ap_B47_b6)
    exact ⟨_, rfl, refE_mk (r' := (RD.mk id n ways ((rOutF (RD.mk id n ways L (ak) al (aw) (gv) gx) (L.getD (pickAt pick L.length) ln0)).1.M) (ak) al (aw) ((rOutF (RD.mk id n ways L (ak) al (aw) (gv) gx) (L.getD (pickAt pick L.length) ln0)).1.gv) ((rOutF (RD.mk id n ways L (ak) al (aw) (gv) gx) (L.getD (pickAt pick L.length) ln0)).1.gx))) (A' := A45) (cap' := cap46) (B := B47) (cB := cB48) (l := (rOutF (RD.mk id n ways L (ak) al (aw) (gv) gx) (L.getD (pickAt pick L.length) ln0)).2.1) hq V49 (O50).view mA_A45 (fun g hg => (gA_B47 g hg).resolve_left (fun h => h)) hF⟩
  ·refine Zna (z := zv4) (cs := rcE.arr rc0) (by kernel_rfl) fun b59 w60 hN61 B62 hb63 => ?_
   have ap_A_b59 : Apart A b59 := hV.apart hb63
   have ne_b1_b59 : NE b1 b59 := NE.mk (Nat.lt_of_lt_of_le B4.lt hb63)
   replace B9 := B9.new hN15
   have ne_b6_b59 : NE b6 b59 := NE.mk (Nat.lt_of_lt_of_le B9.lt hb63)
   replace hF := (hF.trNew hN8).trNew hN15
   have g_b59 := Nat.le_trans hF.size hb63
   replace hV := hV.new hN61
   replace B4 := B4.new hN61
   refine Zhb ⟨hV, B4, trivial⟩ ?_
   refine Zh1 7 ?_
   refine Zk (args := #[.int .i64 pick, .int .i64 ((L.length : Nat) : Int)]) cf63 (choice_c pick (n := L.length) (by omega) (by omega) _) ?_
   rintro v w9 ⟨rfl, hw9⟩
   obtain rfl := hw9.symm
   refine Zhb ⟨hV, B4, trivial⟩ ?_
   obtain ⟨g66, o67, hA68⟩ := (hV).some_ (by omega)
   have hS9 := And.intro hV (And.intro B4 trivial)
   refine Zht 8 rfl (.pointer (some ⟨g66, o67 + (pickAt pick L.length) * 18, none⟩)) hS9 (fun _ fr _ _ => x_indexV Try.underlying40 sz39 rfl (fr.ev rfl) hA68 (fr.ev rfl) (by omega) rfl) ?_
   refine ZhE 9 lnE ag39 hS9 (fun _ ⟨hV, _⟩ => ((hV).elem hA68 (pickAt pick L.length) ln0 (by omega))) ?_
   refine Zh1 10 ?_
   refine Zk (args := #[.agg (rcE.arr (RC.mk id ((n : Nat) : Int) ways A L.length cap (ak) al (aw) (gv) gx)), .agg (lnE.arr (L.getD (pickAt pick L.length) ln0))]) cf62 (rcout_c (L.getD (pickAt pick L.length) ln0) (hV) (by omega) (by omega)) ?_
   rintro v w77 ⟨A69, cap70, B71, cB72, rfl, V73, O74, mv75, hB76, ap2_A69_B71, hN78⟩
   replace hF := hF.trNew hN61
   have mA_A69 : ∀ g, inA A69 g → inA A g ∨ w.heap.size ≤ g := fun g hg => (mv75 g hg).imp (fun h => h) (fun h => Nat.le_trans hF.size h)
   replace B9 := B9.new hN61
   have ap_A69_b6 : Apart A69 b6 := moved_apart mv75 ap_A_b6 B9.lt
   have ap_A69_b59 : Apart A69 b59 := moved_apart mv75 ap_A_b59 B62.lt
   have ap_B71_b6 : Apart B71 b6 := new_apart hB76 B9.lt
   have ap_B71_b59 : Apart B71 b59 := new_apart hB76 B62.lt
   have gA_B71 := gA_new hF hB76
   have hol_A69 := rOutF_len (RD.mk id n ways L (ak) al (aw) (gv) gx) (L.getD (pickAt pick L.length) ln0)
   replace hV := hV.new hN78
   replace B4 := B4.new hN78
   refine Zhb ⟨hV, B4, trivial⟩ ?_
   have hS9 := And.intro hV (And.intro B4 trivial)
   refine Zhm 11 hS9 ?_
   refine Zhx 12 hS9 ?_
   refine Zhx 13 hS9 ?_
   refine Zhx 14 hS9 ?_
   refine Zh1 16 ?_
   replace B62 := B62.new hN78
   refine ZsS sz42 (rcE.all _) B62 (rcE.size _) (rcE.size _) fun w79 hO80 hBq => ?_
   replace B62 := hBq
   clear hBq
   replace hV := hV.only hO80 (Apart.ne1 ap_A_b59)
   replace B4 := B4.only hO80 ne_b1_b59
   refine Zhb ⟨hV, B4, trivial⟩ ?_
   have hS9 := And.intro hV (And.intro B4 trivial)
   refine Zha 17 hS9 ?_
   refine Zhn ?_
   refine Ztl ?_
   refine Za ?_
   refine Znn ?_
   refine Zsr ?_
   refine ZE rcE ag42 (B62.rangeE rcE) ?_
   refine Zm ?_
   replace B9 := (B9.new hN78).only hO80 ne_b6_b59
   refine ZsS sz42 (rcE.all _) B9 (rcE.size _) (rcE.size _) fun w81 hO82 hBq => ?_
   replace B9 := hBq
   clear hBq
   refine Za ?_
   refine Znn ?_
   refine Zrt ?_
   refine Zre rfl [_, _] ⟨⟨_, rfl, loadV_E (E := rcE) ag42 rfl (B9.rangeE rcE)⟩, rfl, trivial⟩ ?_
   have hL0 : ¬ L = [] := fun h => by have := hc11; rw [h] at this; exact this rfl
   have hq : rEvictF (RD.mk id n ways L ak al aw gv gx) pick = ((RD.mk id n ways ((rOutF (RD.mk id n ways L (ak) al (aw) (gv) gx) (L.getD (pickAt pick L.length) ln0)).1.M) (ak) al (aw) ((rOutF (RD.mk id n ways L (ak) al (aw) (gv) gx) (L.getD (pickAt pick L.length) ln0)).1.gv) ((rOutF (RD.mk id n ways L (ak) al (aw) (gv) gx) (L.getD (pickAt pick L.length) ln0)).1.gx)), (rOutF (RD.mk id n ways L (ak) al (aw) (gv) gx) (L.getD (pickAt pick L.length) ln0)).2.1) := by unfold rEvictF; exact if_neg (c := (L = [])) hL0
   replace hF := ((hF.trNew hN78).loc hO80 (.inr g_b59)).loc hO82 (.inr g_b6)
   replace V73 := (V73.only hO80 (Apart.ne1 ap_A69_b59)).only hO82 (Apart.ne1 ap_A69_b6)
   replace O74 := (O74.only hO80 (Apart.ne1 ap_B71_b59)).only hO82 (Apart.ne1 ap_B71_b6)
   exact ⟨_, rfl, refE_mk (r' := (RD.mk id n ways ((rOutF (RD.mk id n ways L (ak) al (aw) (gv) gx) (L.getD (pickAt pick L.length) ln0)).1.M) (ak) al (aw) ((rOutF (RD.mk id n ways L (ak) al (aw) (gv) gx) (L.getD (pickAt pick L.length) ln0)).1.gv) ((rOutF (RD.mk id n ways L (ak) al (aw) (gv) gx) (L.getD (pickAt pick L.length) ln0)).1.gx))) (A' := A69) (cap' := cap70) (B := B71) (cB := cB72) (l := (rOutF (RD.mk id n ways L (ak) al (aw) (gv) gx) (L.getD (pickAt pick L.length) ln0)).2.1) hq V73 (O74).view mA_A69 (fun g hg => (gA_B71 g hg).resolve_left (fun h => h)) hF⟩
end Go.Proofs.Ytflnlmibkbojcaa
namespace Go.Proofs.Ytflnlmibkbojcaa
open Go.RowKit
set_option maxRecDepth 100000 in
set_option maxHeartbeats 4000000 in
theorem rcask_c (line : Int) (hnum : 0 ≤ line ∧ line < 4294967296) (wr : Bool) (pick : Int) {w : World} {id : Int} {n : Nat} {ways : Int} {A : Option Addr} {cap : Nat} {L : List Ln} {ak : Bool} {al : Int} {aw gv : Bool} {gx : Ln} (hV : View lnE w A cap L) (hn : 0 < n ∧ n ≤ 64) (hl : L.length ≤ 1000) (hw : 1 ≤ ways)  : Calls Try.prog 23 #[.agg (rcE.arr (RC.mk id ((n : Nat) : Int) ways A L.length cap (ak) al (aw) (gv) gx)), .int .u32 line, .bool (wr), .int .i64 pick] w (Ret fun v w' => RefR w A (rAskF (RD.mk id n ways L ak al aw gv gx) line hnum wr pick) v w') := by
 have hVl := hV.len
 unfold maxLen at hVl
 have hF := Only.refl (fun _ => False) w
 refine Zen 115 Try.func23 ?_
 refine Zsr ?_
 refine Znb (cs := rcE.arr (RC.mk id ((n : Nat) : Int) ways A L.length cap (ak) al (aw) (gv) gx)) fun b1 w2 hN3 B4 hb5 => ?_
 have ap_A_b1 : Apart A b1 := hV.apart hb5
 have g_b1 := Nat.le_trans hF.size hb5
 refine Zna (z := zv4) (cs := rcE.arr rc0) (by kernel_rfl) fun b6 w7 hN8 B9 hb10 => ?_
 replace hV := hV.new hN3
 have ap_A_b6 : Apart A b6 := hV.apart hb10
 have ne_b1_b6 : NE b1 b6 := NE.mk (Nat.lt_of_lt_of_le B4.lt hb10)
 replace hF := hF.trNew hN3
 have g_b6 := Nat.le_trans hF.size hb10
 refine Za ?_
 refine Za ?_
 refine Znn ?_
 refine Zsr ?_
 replace B4 := B4.new hN8
 refine ZE rcE ag42 (B4.rangeE rcE) ?_
 refine Zm ?_
 replace hV := hV.new hN8
 refine Zk cf60 (rcstate_c line (hV)) ?_
 rintro v w11 ⟨rfl, hN12⟩
 refine Za ?_
 refine Znn ?_
 refine Zsq ?_
 refine Zsr ?_
 refine Zf fo42_4 ?_
 replace B4 := B4.new hN12
 refine Zd (v := .bool (ak)) pl4 (B4.cell 4 rfl) ?_
 refine Zm ?_
 refine Zy (!(ak)) _ (fun _ fr _ => x_fieldAddr fo42_7 rfl (fr.ev rfl) rfl) ?_
 refine Zy (!(ak)) (.bool (gv)) (fun _ fr hg => x_load1 pl4 rfl ((fr.ev rfl).trans (onlyIf_t hg)) (B4.cell 7 rfl)) ?_
 refine Zy (!(ak)) (.bool (gv)) (fun _ fr hg => x_move rfl ((fr.ev rfl).trans (onlyIf_t hg))) ?_
 intro a fr
 refine fx_may2 (g := (!(ak)) && (gv)) (v := .pointer (some ⟨b1, 8, none⟩)) fr rfl rfl rfl (by simp) rfl (by first | decide | simp) (fun hg => x_fieldAddr fo42_8 rfl (fr.ev rfl) rfl) ?_
 clear fr a
 intro a fr
 refine fx_may2 (g := (!(ak)) && (gv)) (v := .pointer (some ⟨b1, 8, none⟩)) fr rfl rfl rfl (by simp) rfl (by first | decide | simp) (fun hg => x_fieldAddr fo39_0 rfl ((fr.ev rfl).trans (onlyIf_t hg)) rfl) ?_
 clear fr a
 intro a fr
 refine fx_may2 (g := (!(ak)) && (gv)) (v := .int .u32 gx.num) fr rfl rfl rfl (by simp) rfl (by first | decide | simp) (fun hg => x_load1 pl32 rfl ((fr.ev rfl).trans (onlyIf_t hg)) (B4.cell 8 rfl)) ?_
 clear fr a
 intro a fr
 refine fx_may2 (g := (!(ak)) && (gv)) (v := .int .u32 line) fr rfl rfl rfl (by simp) rfl (by first | decide | simp) (fun hg => x_move rfl (fr.ev rfl)) ?_
 clear fr a
 intro a fr
 refine fx_may2 (g := (!(ak)) && (gv)) (v := .bool (decide (gx.num = line))) fr rfl rfl rfl (by simp) rfl (by first | decide | simp) (fun hg => x_eql rfl ((fr.ev rfl).trans (onlyIf_t hg)) ((fr.ev rfl).trans (onlyIf_t hg)) rfl) ?_
 clear fr a
 refine Zy (!(ak)) (.bool ((gv) && (decide (gx.num = line)))) (fun _ fr hg => x_pick_and rfl ((fr.ev rfl).trans (onlyIf_t hg)) (fun hb => ((fr.ev rfl)).trans (onlyIf_t (by simp_all))) (fun _ => rfl) rfl) ?_
 refine Zv (.bool ((ak) || ((gv) && (decide (gx.num = line))))) (fun _ fr => x_pick_or rfl (fr.ev rfl) (fun _ => rfl) (fun hb => ((fr.ev rfl)).trans (onlyIf_t (by simp_all))) rfl) ?_
 refine Znn ?_
 refine Zcd (fun hc13 => ?_) (fun hc13 => ?_)
 ·have hc13s := hc13
  try simp at hc13s
  refine Zsr ?_
  refine ZE rcE ag42 (B4.rangeE rcE) ?_
  replace B9 := B9.new hN12
  refine ZsS sz42 (rcE.all _) B9 (rcE.size _) (rcE.size _) fun w14 hO15 hBq => ?_
  replace B9 := hBq
  clear hBq
  refine Za ?_
  refine Za ?_
  refine Znn ?_
  refine Zrt ?_
  refine Zr1 ?_
  refine Zre rfl [_, _, _] ⟨⟨_, rfl, loadV_E (E := rcE) ag42 rfl (B9.rangeE rcE)⟩, rfl, rfl, trivial⟩ ?_
  have hb : rBusy (RD.mk id n ways L ak al aw gv gx) line = true := hc13
  have hq : rAskF (RD.mk id n ways L ak al aw gv gx) line hnum wr pick = ((RD.mk id n ways L (ak) al (aw) (gv) gx), ([] : List Msg), 230) := by unfold rAskF; exact if_pos hb
  replace hF := ((hF.trNew hN8).trNew hN12).loc hO15 (.inr g_b6)
  replace hV := (hV.new hN12).only hO15 (Apart.ne1 ap_A_b6)
  exact ⟨_, rfl, refR_mk (r' := (RD.mk id n ways L (ak) al (aw) (gv) gx)) (A' := A) (cap' := cap) (B := none) (cB := 0) (l := ([] : List Msg)) hq hV View.nil (fun g hg => .inl hg) (fun g hg => absurd hg (apart_none g)) hF⟩
 ·have hc13s := hc13
  try simp at hc13s
  refine Zsk ?_
  refine Znx ?_
  refine Zsq ?_
  refine Zsr ?_
  refine Zm ?_
  refine Zv _ (fun _ fr => x_gtr rfl (fr.ev rfl) rfl rfl) ?_
  refine Zm ?_
  refine Zy (decide (0 < stateOf L line)) (.bool (wr)) (fun _ fr _ => x_move rfl (fr.ev rfl)) ?_
  refine Zy (decide (0 < stateOf L line)) (.bool (!(wr))) (fun _ fr hg => x_not rfl ((fr.ev rfl).trans (onlyIf_t hg)) rfl) ?_
  refine Zy (decide (0 < stateOf L line)) (.bool (!(wr))) (fun _ fr hg => x_move rfl ((fr.ev rfl).trans (onlyIf_t hg))) ?_
  intro a fr
  refine fx_may2 (g := (decide (0 < stateOf L line)) && !(!(wr))) (v := .int .i64 (stateOf L line)) fr rfl rfl rfl (by simp) rfl (by first | decide | simp) (fun hg => x_move rfl (fr.ev rfl)) ?_
  clear fr a
  intro a fr
  refine fx_may2 (g := (decide (0 < stateOf L line)) && !(!(wr))) (v := .bool (decide (2 ≤ stateOf L line))) fr rfl rfl rfl (by simp) rfl (by first | decide | simp) (fun hg => x_geq rfl ((fr.ev rfl).trans (onlyIf_t hg)) rfl rfl) ?_
  clear fr a
  refine Zy (decide (0 < stateOf L line)) (.bool ((!(wr)) || (decide (2 ≤ stateOf L line)))) (fun _ fr hg => x_pick_or rfl ((fr.ev rfl).trans (onlyIf_t hg)) (fun _ => rfl) (fun hb => ((fr.ev rfl)).trans (onlyIf_t (by simp_all))) rfl) ?_
  refine Zv (.bool ((decide (0 < stateOf L line)) && ((!(wr)) || (decide (2 ≤ stateOf L line))))) (fun _ fr => x_pick_and rfl (fr.ev rfl) (fun hb => ((fr.ev rfl)).trans (onlyIf_t (by simp_all))) (fun _ => rfl) rfl) ?_
  refine Znn ?_
  refine Zcd (fun hc16 => ?_) (fun hc16 => ?_)
  ·have hc16s := hc16
   try simp at hc16s
   refine Zsr ?_
   refine ZE rcE ag42 (B4.rangeE rcE) ?_
   replace B9 := B9.new hN12
   refine ZsS sz42 (rcE.all _) B9 (rcE.size _) (rcE.size _) fun w17 hO18 hBq => ?_
   replace B9 := hBq
   clear hBq
   refine Za ?_
   refine Za ?_
   refine Znn ?_
   refine Zrt ?_
   refine Zr1 ?_
   refine Zre rfl [_, _, _] ⟨⟨_, rfl, loadV_E (E := rcE) ag42 rfl (B9.rangeE rcE)⟩, rfl, rfl, trivial⟩ ?_
   have hb : rBusy (RD.mk id n ways L ak al aw gv gx) line = false := hc13
   have ht : rThere (RD.mk id n ways L ak al aw gv gx) line wr = true := hc16
   have hq : rAskF (RD.mk id n ways L ak al aw gv gx) line hnum wr pick = ((RD.mk id n ways L (ak) al (aw) (gv) gx), ([] : List Msg), 231) := by unfold rAskF; rw [if_neg (show ¬ rBusy (RD.mk id n ways L ak al aw gv gx) line = true by rw [hb]; decide)]; exact if_pos ht
   replace hF := ((hF.trNew hN8).trNew hN12).loc hO18 (.inr g_b6)
   replace hV := (hV.new hN12).only hO18 (Apart.ne1 ap_A_b6)
   exact ⟨_, rfl, refR_mk (r' := (RD.mk id n ways L (ak) al (aw) (gv) gx)) (A' := A) (cap' := cap) (B := none) (cB := 0) (l := ([] : List Msg)) hq hV View.nil (fun g hg => .inl hg) (fun g hg => absurd hg (apart_none g)) hF⟩
  ·have hc16s := hc16
   try simp at hc16s
   refine Zsk ?_
   refine Znx ?_
   refine Zsr ?_
   refine Za ?_
   refine Znn ?_
   refine Zsq ?_
   refine Zsr ?_
   refine Za ?_
   refine Znn ?_
   refine Zbl ?_
   intro a fr
   replace hF := (hF.trNew hN8).trNew hN12
   replace hV := hV.new hN12
   replace B9 := B9.new hN12
   refine fx_loop (fun nM a wL => ∃ k : Nat, ∃ Sx : Option Addr, ∃ sc : Nat, ∃ os : List Ln, nM = L.length - k ∧ Fr (115, []) [(1, .int .u32 line), (2, .bool (wr)), (3, .int .i64 pick), (4, .pointer (some ⟨b1, 0, none⟩)), (8, .pointer (some ⟨b6, 0, none⟩)), (11, .int .i64 (stateOf L line)), (12, .slice Sx os.length sc), (13, .int .i64 ((k : Nat) : Int))] a ∧ Only (fun _ => False) w wL ∧ View lnE wL A cap L ∧ Blk wL b1 42 (rcE.arr (RC.mk id ((n : Nat) : Int) ways A L.length cap (ak) al (aw) (gv) gx)) ∧ Blk wL b6 42 (rcE.arr rc0) ∧ Own lnE wL Sx sc os ∧ k ≤ L.length ∧ os = (L.take k).filter (inSet n (si n line)) ∧ os.length ≤ k ∧ (Apart2 A Sx) ∧ (Apart Sx b1) ∧ (Apart Sx b6) ∧ (∀ g, inA Sx g → (fun _ => False) g ∨ w.heap.size ≤ g)) (n0 := _) ⟨0, none, 0, [], rfl, fr.sub ⟨rfl, rfl, rfl, rfl, rfl, rfl, rfl, rfl, trivial⟩, hF, hV, B4, B9, Own.nil, by omega, rfl, Nat.le_refl _, (fun k _ h => apart_none k h), (apart_none b1), (apart_none b6), gA_none⟩ ?_
   clear fr a
   rintro n20 a w19 ⟨k, Sx, sc, os, rfl, fr, hF, hV, B4, B9, Oo, hk, hos, hok, ap2_A_Sx, ap_Sx_b1, ap_Sx_b6, gA_Sx⟩
   revert a
   have hxk := (L.getD k ln0).hn
   refine Zsq ?_
   refine Zsr ?_
   refine Zm ?_
   refine Zf fo42_3 ?_
   refine Zd (v := .slice A L.length cap) pl40 (B4.cell 3 rfl) ?_
   refine Zv _ (fun _ fr => x_len Try.underlying40 rfl (fr.ev rfl)) ?_
   refine Zv _ (fun _ fr => x_lss rfl (fr.ev rfl) (fr.ev rfl) rfl) ?_
   refine Znn ?_
   refine Zcd (fun hc21 => ?_) (fun hc21 => ?_)
   ·have hc21 := of_decide_eq_true hc21
    refine Zsk ?_
    refine Znx ?_
    refine Zsq ?_
    refine Zbl ?_
    refine Zsq ?_
    refine Zhd (n := 12) (fun w => View lnE w A cap L ∧ Blk w b1 42 (rcE.arr (RC.mk id ((n : Nat) : Int) ways A L.length cap (ak) al (aw) (gv) gx)) ∧ Own lnE w Sx sc os ∧ True) ?_
    intro w22 hN23
    replace hV := hV.new hN23
    replace B4 := B4.new hN23
    replace Oo := Oo.new hN23
    have hS9 := And.intro hV (And.intro B4 (And.intro Oo trivial))
    refine ZhE 0 rcE ag42 hS9 (fun _ ⟨_, B4, _⟩ => (B4.rangeE rcE)) ?_
    refine Zhf 1 fo42_3 hS9 ?_
    refine Zhl (v := .slice A L.length cap) 2 pl40 hS9 (fun _ ⟨_, B4, _⟩ => (B4.cell 3 rfl)) ?_
    refine Zhm 3 hS9 ?_
    obtain ⟨g24, o25, hA26⟩ := (hV).some_ (by omega)
    have hS9 := And.intro hV (And.intro B4 (And.intro Oo trivial))
    refine Zht 4 rfl (.pointer (some ⟨g24, o25 + k * 18, none⟩)) hS9 (fun _ fr _ _ => x_indexV Try.underlying40 sz39 rfl (fr.ev rfl) hA26 (fr.ev rfl) (by omega) rfl) ?_
    refine Zhf 5 fo39_0 hS9 ?_
    refine Zhl (v := .int .u32 ((L.getD k ln0).num)) 6 pl32 hS9 (fun _ ⟨hV, _⟩ => (range_cell ((hV).elem hA26 k ln0 (by omega)) 0 rfl rfl)) ?_
    refine ZhE 8 rcE ag42 hS9 (fun _ ⟨_, B4, _⟩ => (B4.rangeE rcE)) ?_
    refine Zhm 9 hS9 ?_
    refine Zh1 7 ?_
    refine Zk (args := #[.agg (rcE.arr (RC.mk id ((n : Nat) : Int) ways A L.length cap (ak) al (aw) (gv) gx)), .int .u32 ((L.getD k ln0).num)]) cf61 (rcset_c ((L.getD k ln0).num) (by omega) (by omega) _) ?_
    rintro v w27 ⟨rfl, hN28⟩
    replace hV := hV.new hN28
    replace B4 := B4.new hN28
    replace Oo := Oo.new hN28
    refine Zhb ⟨hV, B4, Oo, trivial⟩ ?_
    refine Zh1 10 ?_
    refine Zk (args := #[.agg (rcE.arr (RC.mk id ((n : Nat) : Int) ways A L.length cap (ak) al (aw) (gv) gx)), .int .u32 line]) cf61 (rcset_c line (by omega) (by omega) _) ?_
    rintro v w29 ⟨rfl, hN30⟩
    replace hV := hV.new hN30
    replace B4 := B4.new hN30
    replace Oo := Oo.new hN30
    refine Zhb ⟨hV, B4, Oo, trivial⟩ ?_
    have hS9 := And.intro hV (And.intro B4 (And.intro Oo trivial))
    refine Zht 11 rfl _ hS9 (fun _ fr _ _ => x_eql rfl (fr.ev rfl) (fr.ev rfl) rfl) ?_
    refine Zhn ?_
    refine Znx ?_
    refine Zcd (fun hc31 => ?_) (fun hc31 => ?_)
    ·have hc31 := of_decide_eq_true hc31
     refine Zrg ?_
     refine Zm ?_
     refine Zf fo42_3 ?_
     refine Zd (v := .slice A L.length cap) pl40 (B4.cell 3 rfl) ?_
     refine Zm ?_
     refine Zv (.pointer (some ⟨g24, o25 + k * 18, none⟩)) (fun _ fr => x_indexV Try.underlying40 sz39 rfl (fr.ev rfl) hA26 (fr.ev rfl) (by omega) rfl) ?_
     refine ZE lnE ag39 ((hV).elem hA26 k ln0 (by omega)) ?_
     intro a fr
     refine fx_build1 (E := lnE) (p := (L.getD k ln0)) elLn (by decide) fr rfl rfl (by decide) rfl (fr.ev rfl) ?_
     clear fr a
     intro A32 w33 hN34 O35 hA36
     intro a fr
     replace Oo := Oo.new hN34
     refine fx_append (E := lnE) (l := os) (l' := [(L.getD k ln0)]) elLn fr rfl rfl (by decide) rfl (fr.ev rfl) (fr.ev rfl) (by first | rfl | (simp; done) | (simp; omega)) (by first | rfl | (simp; done) | (simp; omega)) Oo O35.view (by first | omega | (simp only [List.length_append, List.length_cons, List.length_nil, List.nil_append]; omega) | (simp only [List.length_append, List.length_cons, List.length_nil, maxLen]; omega)) (by first | (unfold maxLen; done) | (unfold maxLen; first | omega | (simp only [List.length_append, List.length_cons, List.length_nil]; omega) | (simp; done) | (simp; omega))) ?_
     clear fr a
     intro A37 cap38 w39 O40 hO41 mv42
     replace hV := hV.new hN34
     have ap2_A37_A : Apart2 A37 A := moved_apart2 mv42 ap2_A_Sx.symm fun _ hg => hV.lt hg
     replace B4 := B4.new hN34
     have ap_A37_b1 : Apart A37 b1 := moved_apart mv42 ap_Sx_b1 B4.lt
     replace B9 := (((B9.new hN23).new hN28).new hN30).new hN34
     have ap_A37_b6 : Apart A37 b6 := moved_apart mv42 ap_Sx_b6 B9.lt
     replace hF := (((hF.trNew hN23).trNew hN28).trNew hN30).trNew hN34
     have gA_A37 := gA_moved hF mv42 gA_Sx
     clear Oo
     refine Za ?_
     refine Znl ?_
     refine Zb ?_
     refine Znx ?_
     refine Zrg ?_
     refine Zm ?_
     refine Zv _ (fun _ fr => x_add rfl (fr.ev rfl) rfl (i64w (r := ((k + 1 : Nat) : Int)) (by omega) (by omega))) ?_
     refine Za ?_
     intro a fr
     refine wpList_nil ?_
     refine fx_next ?_
     replace hV := hV.only hO41 (fun g h1 h2 => ap2_A_Sx g h1 h2)
     replace B4 := B4.only hO41 ap_Sx_b1
     replace B9 := B9.only hO41 ap_Sx_b6
     replace hF := hF.locA hO41 gA_Sx
     exact ⟨_, by omega, (k + 1), A37, cap38, (os ++ ([(L.getD k ln0)])), rfl, fr.sub ⟨rfl, rfl, rfl, rfl, rfl, rfl, rfl, rfl, trivial⟩, hF, hV, B4, B9, O40, by omega, (by rw [selF_yes (p := inSet n (si n line)) (by omega) (by unfold inSet; rw [decide_eq_true_eq]; omega), hos]), (by simp; omega), ap2_A37_A.symm, ap_A37_b1, ap_A37_b6, gA_A37⟩
    ·have hc31 := of_decide_eq_false hc31
     refine Zsk ?_
     refine Zb ?_
     refine Znx ?_
     refine Zrg ?_
     refine Zm ?_
     refine Zv _ (fun _ fr => x_add rfl (fr.ev rfl) rfl (i64w (r := ((k + 1 : Nat) : Int)) (by omega) (by omega))) ?_
     refine Za ?_
     intro a fr
     refine wpList_nil ?_
     refine fx_next ?_
     replace B9 := ((B9.new hN23).new hN28).new hN30
     replace hF := ((hF.trNew hN23).trNew hN28).trNew hN30
     exact ⟨_, by omega, (k + 1), Sx, sc, os, rfl, fr.sub ⟨rfl, rfl, rfl, rfl, rfl, rfl, rfl, rfl, trivial⟩, hF, hV, B4, B9, Oo, by omega, (by rw [selF_no (p := inSet n (si n line)) (by omega) (by unfold inSet; rw [decide_eq_true_eq]; omega), hos]), by omega, ap2_A_Sx, ap_Sx_b1, ap_Sx_b6, gA_Sx⟩
   ·have hc21 := of_decide_eq_false hc21
    refine Zex ?_
    refine Zxt ?_
    refine Zxt ?_
    refine Zxx ?_
    refine Znx ?_
    refine Zsq ?_
    obtain rfl : k = L.length := by omega
    replace hos : os = ofs n L (si n line) := by rw [hos, List.take_of_length_le (Nat.le_refl _)]; rfl
    refine Zrg ?_
    refine Za ?_
    refine Znn ?_
    refine Zsq ?_
    refine Zsr ?_
    refine Zm ?_
    refine Zv _ (fun _ fr => x_eql rfl (fr.ev rfl) rfl rfl) ?_
    refine Zm ?_
    refine Zy (decide (stateOf L line = 0)) _ (fun _ fr _ => x_move rfl (fr.ev rfl)) ?_
    refine Zy (decide (stateOf L line = 0)) _ (fun _ fr hg => x_len Try.underlying40 rfl ((fr.ev rfl).trans (onlyIf_t hg))) ?_
    refine Zy (decide (stateOf L line = 0)) _ (fun _ fr _ => x_fieldAddr fo42_2 rfl (fr.ev rfl) rfl) ?_
    refine Zy (decide (stateOf L line = 0)) _ (fun _ fr hg => x_load1 pl3 rfl ((fr.ev rfl).trans (onlyIf_t hg)) (B4.cell 2 rfl)) ?_
    refine Zy (decide (stateOf L line = 0)) _ (fun _ fr hg => x_eql rfl ((fr.ev rfl).trans (onlyIf_t hg)) ((fr.ev rfl).trans (onlyIf_t hg)) rfl) ?_
    refine Zv (.bool ((decide (stateOf L line = 0)) && (decide (((os.length : Nat) : Int) = ways)))) (fun _ fr => x_pick_and rfl (fr.ev rfl) (fun hb => ((fr.ev rfl)).trans (onlyIf_t (by simp_all))) (fun _ => rfl) rfl) ?_
    refine Znn ?_
    refine Zcd (fun hc43 => ?_) (fun hc43 => ?_)
    ·have hc43s := hc43
     try simp at hc43s
     refine Zsq ?_
     have hpk0 := pickAt_lt pick os.length (by omega)
     refine ZhT (n := 16) 16 (fun w => View lnE w A cap L ∧ Blk w b1 42 (rcE.arr (RC.mk id ((n : Nat) : Int) ways A L.length cap (ak) al (aw) (gv) gx)) ∧ Own lnE w Sx sc os ∧ True) ?_
     intro w44 hN45
     replace hV := hV.new hN45
     replace B4 := B4.new hN45
     replace Oo := Oo.new hN45
     have hS9 := And.intro hV (And.intro B4 (And.intro Oo trivial))
     refine ZhE 0 rcE ag42 hS9 (fun _ ⟨_, B4, _⟩ => (B4.rangeE rcE)) ?_
     refine Zhm 1 hS9 ?_
     refine Zhm 2 hS9 ?_
     refine Zhm 3 hS9 ?_
     refine Zht 4 rfl _ hS9 (fun _ fr _ _ => x_len Try.underlying40 rfl (fr.ev rfl)) ?_
     refine Zh2 5 13 ?_ ?_
     ·refine Zk (args := #[.int .i64 pick, .int .i64 ((os.length : Nat) : Int)]) cf63 (choice_c pick (n := os.length) (by omega) (by omega) _) ?_
      rintro v w9 ⟨rfl, hw9⟩
      obtain rfl := hw9.symm
      refine Zhb ⟨hV, B4, Oo, trivial⟩ ?_
      obtain ⟨g48, o49, hA50⟩ := (Oo.view).some_ (by omega)
      have hS9 := And.intro hV (And.intro B4 (And.intro Oo trivial))
      refine Zht 6 rfl (.pointer (some ⟨g48, o49 + (pickAt pick os.length) * 18, none⟩)) hS9 (fun _ fr _ _ => x_indexV Try.underlying40 sz39 rfl (fr.ev rfl) hA50 (fr.ev rfl) (by omega) rfl) ?_
      refine ZhE 7 lnE ag39 hS9 (fun _ ⟨_, _, Oo, _⟩ => ((Oo.view).elem hA50 (pickAt pick os.length) ln0 (by omega))) ?_
      refine Zh2 8 13 ?_ ?_
      ·refine Zk (args := #[.agg (rcE.arr (RC.mk id ((n : Nat) : Int) ways A L.length cap (ak) al (aw) (gv) gx)), .agg (lnE.arr (os.getD (pickAt pick os.length) ln0))]) cf62 (rcout_c (os.getD (pickAt pick os.length) ln0) (hV) (by omega) (by omega)) ?_
       rintro v w59 ⟨A51, cap52, B53, cB54, rfl, V55, O56, mv57, hB58, ap2_A51_B53, hN60⟩
       replace hF := hF.trNew hN45
       have mA_A51 : ∀ g, inA A51 g → inA A g ∨ w.heap.size ≤ g := fun g hg => (mv57 g hg).imp (fun h => h) (fun h => Nat.le_trans hF.size h)
       have ap_A51_b1 : Apart A51 b1 := moved_apart mv57 ap_A_b1 B4.lt
       replace B9 := B9.new hN45
       have ap_A51_b6 : Apart A51 b6 := moved_apart mv57 ap_A_b6 B9.lt
       have ap_B53_b1 : Apart B53 b1 := new_apart hB58 B4.lt
       have ap_B53_b6 : Apart B53 b6 := new_apart hB58 B9.lt
       have gA_B53 := gA_new hF hB58
       have hol_A51 := rOutF_len (RD.mk id n ways L (ak) al (aw) (gv) gx) (os.getD (pickAt pick os.length) ln0)
       replace hV := hV.new hN60
       replace B4 := B4.new hN60
       replace Oo := Oo.new hN60
       refine Zhb ⟨hV, B4, Oo, trivial⟩ ?_
       have hS9 := And.intro hV (And.intro B4 (And.intro Oo trivial))
       refine Zhm 9 hS9 ?_
       refine Zhx 10 hS9 ?_
       refine Zhx 11 hS9 ?_
       refine Zhx 12 hS9 ?_
       refine Zh1 13 ?_
       refine Zna (z := zv4) (cs := rcE.arr rc0) (by kernel_rfl) fun b61 w62 hN63 B64 hb65 => ?_
       have ap_A_b61 : Apart A b61 := hV.apart hb65
       have ne_b1_b61 : NE b1 b61 := NE.mk (Nat.lt_of_lt_of_le B4.lt hb65)
       replace B9 := B9.new hN60
       have ne_b6_b61 : NE b6 b61 := NE.mk (Nat.lt_of_lt_of_le B9.lt hb65)
       have ap_Sx_b61 : Apart Sx b61 := Oo.apart hb65
       have ap_A51_b61 : Apart A51 b61 := V55.apart hb65
       have ap_B53_b61 : Apart B53 b61 := O56.apart hb65
       replace hF := hF.trNew hN60
       have g_b61 := Nat.le_trans hF.size hb65
       replace hV := hV.new hN63
       replace B4 := B4.new hN63
       replace Oo := Oo.new hN63
       refine Zhb ⟨hV, B4, Oo, trivial⟩ ?_
       refine Zh1 14 ?_
       refine ZsS sz42 (rcE.all _) B64 (rcE.size _) (rcE.size _) fun w66 hO67 hBq => ?_
       replace B64 := hBq
       clear hBq
       replace hV := hV.only hO67 (Apart.ne1 ap_A_b61)
       replace B4 := B4.only hO67 ne_b1_b61
       replace Oo := Oo.only hO67 (Apart.ne1 ap_Sx_b61)
       refine Zhb ⟨hV, B4, Oo, trivial⟩ ?_
       have hS9 := And.intro hV (And.intro B4 (And.intro Oo trivial))
       refine Zha 15 hS9 ?_
       refine Zhn ?_
       refine Ztl ?_
       refine Za ?_
       refine Znn ?_
       refine Zsq ?_
       refine Zsr ?_
       refine Zm ?_
       refine Zv _ (fun _ fr => x_not rfl (fr.ev rfl) rfl) ?_
       refine Znn ?_
       refine Zcd (fun hc68 => ?_) (fun hc68 => ?_)
       ·refine Zsr ?_
        refine ZE rcE ag42 (B4.rangeE rcE) ?_
        replace B9 := (B9.new hN63).only hO67 ne_b6_b61
        refine ZsS sz42 (rcE.all _) B9 (rcE.size _) (rcE.size _) fun w69 hO70 hBq => ?_
        replace B9 := hBq
        clear hBq
        refine Za ?_
        refine Za ?_
        refine Znn ?_
        refine Zrt ?_
        refine Zr1 ?_
        refine Zr1 ?_
        refine Zre rfl [_, _, _] ⟨⟨_, rfl, loadV_E (E := rcE) ag42 rfl (B9.rangeE rcE)⟩, rfl, rfl, trivial⟩ ?_
        have hb : rBusy (RD.mk id n ways L ak al aw gv gx) line = false := hc13
        have ht : rThere (RD.mk id n ways L ak al aw gv gx) line wr = false := hc16
        have hfl : rFull (RD.mk id n ways L ak al aw gv gx) line = true := by unfold rFull; rw [← hos]; exact hc43
        have hos9 : ofs (RD.mk id n ways L ak al aw gv gx).n (RD.mk id n ways L ak al aw gv gx).M (si (RD.mk id n ways L ak al aw gv gx).n line) = os := hos.symm
        have hvv : rVic (RD.mk id n ways L ak al aw gv gx) line pick = os.getD (pickAt pick os.length) ln0 := by unfold rVic; rw [hos9]
        have hq : rAskF (RD.mk id n ways L ak al aw gv gx) line hnum wr pick = ((RD.mk id n ways L (ak) al (aw) (gv) gx), ([] : List Msg), 230) := by unfold rAskF; rw [if_neg (show ¬ rBusy (RD.mk id n ways L ak al aw gv gx) line = true by rw [hb]; decide), if_neg (show ¬ rThere (RD.mk id n ways L ak al aw gv gx) line wr = true by rw [ht]; decide), if_pos hfl, hvv, if_neg (by simpa using hc68)]
        replace hF := ((hF.trNew hN63).loc hO67 (.inr g_b61)).loc hO70 (.inr g_b6)
        replace hV := hV.only hO70 (Apart.ne1 ap_A_b6)
        exact ⟨_, rfl, refR_mk (r' := (RD.mk id n ways L (ak) al (aw) (gv) gx)) (A' := A) (cap' := cap) (B := none) (cB := 0) (l := ([] : List Msg)) hq hV View.nil (fun g hg => .inl hg) (fun g hg => absurd hg (apart_none g)) hF⟩
       ·refine Zsk ?_
        refine Znx ?_
        refine Zrg ?_
        refine ZE rcE ag42 (B64.rangeE rcE) ?_
        refine Zm ?_
        refine ZsS sz42 (rcE.all _) B4 (rcE.size _) (rcE.size _) fun w71 hO72 hBq => ?_
        replace B4 := hBq
        clear hBq
        refine Za ?_
        refine Znn ?_
        refine Zsr ?_
        refine Zm ?_
        refine Zm ?_
        refine Zf fo42_4 ?_
        refine Zs1 (cs' := rcE.arr (RC.mk id ((n : Nat) : Int) ways A51 ((rOutF (RD.mk id n ways L (ak) al (aw) (gv) gx) (os.getD (pickAt pick os.length) ln0)).1.M.length) cap52 true al (aw) ((rOutF (RD.mk id n ways L (ak) al (aw) (gv) gx) (os.getD (pickAt pick os.length) ln0)).1.gv) ((rOutF (RD.mk id n ways L (ak) al (aw) (gv) gx) (os.getD (pickAt pick os.length) ln0)).1.gx))) sz4 B4 (by rw [rcE.size]; decide) (rc_set4 _ _) fun w73 hO74 hBq => ?_
        replace B4 := hBq
        clear hBq
        refine Zf fo42_5 ?_
        refine Zs1 (cs' := rcE.arr (RC.mk id ((n : Nat) : Int) ways A51 ((rOutF (RD.mk id n ways L (ak) al (aw) (gv) gx) (os.getD (pickAt pick os.length) ln0)).1.M.length) cap52 true line (aw) ((rOutF (RD.mk id n ways L (ak) al (aw) (gv) gx) (os.getD (pickAt pick os.length) ln0)).1.gv) ((rOutF (RD.mk id n ways L (ak) al (aw) (gv) gx) (os.getD (pickAt pick os.length) ln0)).1.gx))) sz32 B4 (by rw [rcE.size]; decide) (rc_set5 _ _) fun w75 hO76 hBq => ?_
        replace B4 := hBq
        clear hBq
        refine Zf fo42_6 ?_
        refine Zs1 (cs' := rcE.arr (RC.mk id ((n : Nat) : Int) ways A51 ((rOutF (RD.mk id n ways L (ak) al (aw) (gv) gx) (os.getD (pickAt pick os.length) ln0)).1.M.length) cap52 true line (wr) ((rOutF (RD.mk id n ways L (ak) al (aw) (gv) gx) (os.getD (pickAt pick os.length) ln0)).1.gv) ((rOutF (RD.mk id n ways L (ak) al (aw) (gv) gx) (os.getD (pickAt pick os.length) ln0)).1.gx))) sz4 B4 (by rw [rcE.size]; decide) (rc_set6 _ _) fun w77 hO78 hBq => ?_
        replace B4 := hBq
        clear hBq
        refine Znn ?_
        refine Zsr ?_
        refine Za ?_
        refine Znn ?_
        refine Zsq ?_
        refine Zsr ?_
        refine Zm ?_
        refine Znn ?_
        refine Zcd (fun hc79 => ?_) (fun hc79 => ?_)
        ·refine Zrg ?_
         refine Za ?_
         refine Znn ?_
         refine Zsq ?_
         refine ZhT (n := 9) 9 (fun w => Blk w b1 42 (rcE.arr (RC.mk id ((n : Nat) : Int) ways A51 ((rOutF (RD.mk id n ways L (ak) al (aw) (gv) gx) (os.getD (pickAt pick os.length) ln0)).1.M.length) cap52 true line (wr) ((rOutF (RD.mk id n ways L (ak) al (aw) (gv) gx) (os.getD (pickAt pick os.length) ln0)).1.gv) ((rOutF (RD.mk id n ways L (ak) al (aw) (gv) gx) (os.getD (pickAt pick os.length) ln0)).1.gx))) ∧ True) ?_
         intro w80 hN81
         replace B4 := B4.new hN81
         have hS9 := And.intro B4 trivial
         refine ZhE 0 rcE ag42 hS9 (fun _ ⟨B4, _⟩ => (B4.rangeE rcE)) ?_
         refine Zhm 1 hS9 ?_
         refine ZhE 2 rcE ag42 hS9 (fun _ ⟨B4, _⟩ => (B4.rangeE rcE)) ?_
         refine Zhm 3 hS9 ?_
         refine Zhm 4 hS9 ?_
         refine Zh1 5 ?_
         refine Zk (args := #[.agg (rcE.arr (RC.mk id ((n : Nat) : Int) ways A51 ((rOutF (RD.mk id n ways L (ak) al (aw) (gv) gx) (os.getD (pickAt pick os.length) ln0)).1.M.length) cap52 true line (wr) ((rOutF (RD.mk id n ways L (ak) al (aw) (gv) gx) (os.getD (pickAt pick os.length) ln0)).1.gv) ((rOutF (RD.mk id n ways L (ak) al (aw) (gv) gx) (os.getD (pickAt pick os.length) ln0)).1.gx))), .int .i64 2, .int .u32 line]) cf64 (rcmsg_c 2 line (by omega) _) ?_
         rintro v w82 ⟨rfl, hN83⟩
         replace B4 := B4.new hN83
         refine Zhb ⟨B4, trivial⟩ ?_
         refine Zh1 6 ?_
         intro a fr
         refine fx_build1 (E := msgE) (p := (mkM 2 id 4 line)) elMsg (by decide) fr rfl rfl (by decide) rfl (fr.ev rfl) ?_
         clear fr a
         intro A84 w85 hN86 O87 hA88
         replace B4 := B4.new hN86
         refine Zhb ⟨B4, trivial⟩ ?_
         refine Zh1 7 ?_
         intro a fr
         replace O56 := ((((((((O56.new hN63).only hO67 (Apart.ne1 ap_B53_b61)).only hO72 (Apart.ne1 ap_B53_b1)).only hO74 (Apart.ne1 ap_B53_b1)).only hO76 (Apart.ne1 ap_B53_b1)).only hO78 (Apart.ne1 ap_B53_b1)).new hN81).new hN83).new hN86
         refine fx_append (E := msgE) (l := (rOutF (RD.mk id n ways L (ak) al (aw) (gv) gx) (os.getD (pickAt pick os.length) ln0)).2.1) (l' := [(mkM 2 id 4 line)]) elMsg fr rfl rfl (by decide) rfl (fr.ev rfl) (fr.ev rfl) (by first | rfl | (simp; done) | (simp; omega)) (by first | rfl | (simp; done) | (simp; omega)) O56 O87.view (by first | omega | (simp only [List.length_append, List.length_cons, List.length_nil, List.nil_append]; omega) | (simp only [List.length_append, List.length_cons, List.length_nil, maxLen]; omega)) (by first | (unfold maxLen; done) | (unfold maxLen; first | omega | (simp only [List.length_append, List.length_cons, List.length_nil]; omega) | (simp; done) | (simp; omega))) ?_
         clear fr a
         intro A89 cap90 w91 O92 hO93 mv94
         replace B9 := ((((((((B9.new hN63).only hO67 ne_b6_b61).only hO72 ne_b1_b6.symm).only hO74 ne_b1_b6.symm).only hO76 ne_b1_b6.symm).only hO78 ne_b1_b6.symm).new hN81).new hN83).new hN86
         have ap_A89_b6 : Apart A89 b6 := moved_apart mv94 ap_B53_b6 B9.lt
         replace hF := ((((((((hF.trNew hN63).loc hO67 (.inr g_b61)).loc hO72 (.inr g_b1)).loc hO74 (.inr g_b1)).loc hO76 (.inr g_b1)).loc hO78 (.inr g_b1)).trNew hN81).trNew hN83).trNew hN86
         have gA_A89 := gA_moved hF mv94 gA_B53
         clear O56
         replace B4 := B4.only hO93 ap_B53_b1
         refine Zhb ⟨B4, trivial⟩ ?_
         refine Zh1 8 ?_
         replace B9 := B9.only hO93 ap_B53_b6
         refine ZsS sz42 (rcE.all _) B9 (rcE.size _) (rcE.size _) fun w95 hO96 hBq => ?_
         replace B9 := hBq
         clear hBq
         replace B4 := B4.only hO96 ne_b1_b6
         refine Zhb ⟨B4, trivial⟩ ?_
         refine Zhn ?_
         refine Ztl ?_
         refine Za ?_
         refine Za ?_
         refine Znn ?_
         refine Zrt ?_
         refine Zre rfl [_, _, _] ⟨⟨_, rfl, loadV_E (E := rcE) ag42 rfl (B9.rangeE rcE)⟩, rfl, rfl, trivial⟩ ?_
         have hb : rBusy (RD.mk id n ways L ak al aw gv gx) line = false := hc13
         have ht : rThere (RD.mk id n ways L ak al aw gv gx) line wr = false := hc16
         have hfl : rFull (RD.mk id n ways L ak al aw gv gx) line = true := by unfold rFull; rw [← hos]; exact hc43
         have hos9 : ofs (RD.mk id n ways L ak al aw gv gx).n (RD.mk id n ways L ak al aw gv gx).M (si (RD.mk id n ways L ak al aw gv gx).n line) = os := hos.symm
         have hvv : rVic (RD.mk id n ways L ak al aw gv gx) line pick = os.getD (pickAt pick os.length) ln0 := by unfold rVic; rw [hos9]
         have hq : rAskF (RD.mk id n ways L ak al aw gv gx) line hnum wr pick = ((RD.mk id n ways ((rOutF (RD.mk id n ways L (ak) al (aw) (gv) gx) (os.getD (pickAt pick os.length) ln0)).1.M) true line (wr) ((rOutF (RD.mk id n ways L (ak) al (aw) (gv) gx) (os.getD (pickAt pick os.length) ln0)).1.gv) ((rOutF (RD.mk id n ways L (ak) al (aw) (gv) gx) (os.getD (pickAt pick os.length) ln0)).1.gx)), ((rOutF (RD.mk id n ways L (ak) al (aw) (gv) gx) (os.getD (pickAt pick os.length) ln0)).2.1) ++ ([(mkM 2 id 4 line)]), 0) := by unfold rAskF; rw [if_neg (show ¬ rBusy (RD.mk id n ways L ak al aw gv gx) line = true by rw [hb]; decide), if_neg (show ¬ rThere (RD.mk id n ways L ak al aw gv gx) line wr = true by rw [ht]; decide), if_pos hfl, hvv, if_pos (by simpa using hc68)]; simp only [askM, hc79, if_true, Bool.false_eq_true, if_false]; try rfl
         replace V55 := ((((((((((V55.new hN63).only hO67 (Apart.ne1 ap_A51_b61)).only hO72 (Apart.ne1 ap_A51_b1)).only hO74 (Apart.ne1 ap_A51_b1)).only hO76 (Apart.ne1 ap_A51_b1)).only hO78 (Apart.ne1 ap_A51_b1)).new hN81).new hN83).new hN86).only hO93 (fun g h1 h2 => ap2_A51_B53 g h1 h2)).only hO96 (Apart.ne1 ap_A51_b6)
         replace hF := (hF.locA hO93 gA_B53).loc hO96 (.inr g_b6)
         replace O92 := O92.only hO96 (Apart.ne1 ap_A89_b6)
         exact ⟨_, rfl, refR_mk (r' := (RD.mk id n ways ((rOutF (RD.mk id n ways L (ak) al (aw) (gv) gx) (os.getD (pickAt pick os.length) ln0)).1.M) true line (wr) ((rOutF (RD.mk id n ways L (ak) al (aw) (gv) gx) (os.getD (pickAt pick os.length) ln0)).1.gv) ((rOutF (RD.mk id n ways L (ak) al (aw) (gv) gx) (os.getD (pickAt pick os.length) ln0)).1.gx))) (A' := A51) (cap' := cap52) (B := A89) (cB := cap90) (l := ((rOutF (RD.mk id n ways L (ak) al (aw) (gv) gx) (os.getD (pickAt pick os.length) ln0)).2.1) ++ ([(mkM 2 id 4 line)])) hq V55 (O92).view mA_A51 (fun g hg => (gA_A89 g hg).resolve_left (fun h => h)) hF⟩
        ·refine Zsk ?_
         refine Znx ?_
         refine Zsq ?_
         refine ZhT (n := 9) 9 (fun w => Blk w b1 42 (rcE.arr (RC.mk id ((n : Nat) : Int) ways A51 ((rOutF (RD.mk id n ways L (ak) al (aw) (gv) gx) (os.getD (pickAt pick os.length) ln0)).1.M.length) cap52 true line (wr) ((rOutF (RD.mk id n ways L (ak) al (aw) (gv) gx) (os.getD (pickAt pick os.length) ln0)).1.gv) ((rOutF (RD.mk id n ways L (ak) al (aw) (gv) gx) (os.getD (pickAt pick os.length) ln0)).1.gx))) ∧ True) ?_
         intro w97 hN98
         replace B4 := B4.new hN98
         have hS9 := And.intro B4 trivial
         refine ZhE 0 rcE ag42 hS9 (fun _ ⟨B4, _⟩ => (B4.rangeE rcE)) ?_
         refine Zhm 1 hS9 ?_
         refine ZhE 2 rcE ag42 hS9 (fun _ ⟨B4, _⟩ => (B4.rangeE rcE)) ?_
         refine Zhm 3 hS9 ?_
         refine Zhm 4 hS9 ?_
         refine Zh1 5 ?_
         refine Zk (args := #[.agg (rcE.arr (RC.mk id ((n : Nat) : Int) ways A51 ((rOutF (RD.mk id n ways L (ak) al (aw) (gv) gx) (os.getD (pickAt pick os.length) ln0)).1.M.length) cap52 true line (wr) ((rOutF (RD.mk id n ways L (ak) al (aw) (gv) gx) (os.getD (pickAt pick os.length) ln0)).1.gv) ((rOutF (RD.mk id n ways L (ak) al (aw) (gv) gx) (os.getD (pickAt pick os.length) ln0)).1.gx))), .int .i64 1, .int .u32 line]) cf64 (rcmsg_c 1 line (by omega) _) ?_
         rintro v w99 ⟨rfl, hN100⟩
         replace B4 := B4.new hN100
         refine Zhb ⟨B4, trivial⟩ ?_
         refine Zh1 6 ?_
         intro a fr
         refine fx_build1 (E := msgE) (p := (mkM 1 id 4 line)) elMsg (by decide) fr rfl rfl (by decide) rfl (fr.ev rfl) ?_
         clear fr a
         intro A101 w102 hN103 O104 hA105
         replace B4 := B4.new hN103
         refine Zhb ⟨B4, trivial⟩ ?_
         refine Zh1 7 ?_
         intro a fr
         replace O56 := ((((((((O56.new hN63).only hO67 (Apart.ne1 ap_B53_b61)).only hO72 (Apart.ne1 ap_B53_b1)).only hO74 (Apart.ne1 ap_B53_b1)).only hO76 (Apart.ne1 ap_B53_b1)).only hO78 (Apart.ne1 ap_B53_b1)).new hN98).new hN100).new hN103
         refine fx_append (E := msgE) (l := (rOutF (RD.mk id n ways L (ak) al (aw) (gv) gx) (os.getD (pickAt pick os.length) ln0)).2.1) (l' := [(mkM 1 id 4 line)]) elMsg fr rfl rfl (by decide) rfl (fr.ev rfl) (fr.ev rfl) (by first | rfl | (simp; done) | (simp; omega)) (by first | rfl | (simp; done) | (simp; omega)) O56 O104.view (by first | omega | (simp only [List.length_append, List.length_cons, List.length_nil, List.nil_append]; omega) | (simp only [List.length_append, List.length_cons, List.length_nil, maxLen]; omega)) (by first | (unfold maxLen; done) | (unfold maxLen; first | omega | (simp only [List.length_append, List.length_cons, List.length_nil]; omega) | (simp; done) | (simp; omega))) ?_
         clear fr a
         intro A106 cap107 w108 O109 hO110 mv111
         replace B9 := ((((((((B9.new hN63).only hO67 ne_b6_b61).only hO72 ne_b1_b6.symm).only hO74 ne_b1_b6.symm).only hO76 ne_b1_b6.symm).only hO78 ne_b1_b6.symm).new hN98).new hN100).new hN103
         have ap_A106_b6 : Apart A106 b6 := moved_apart mv111 ap_B53_b6 B9.lt
         replace hF := ((((((((hF.trNew hN63).loc hO67 (.inr g_b61)).loc hO72 (.inr g_b1)).loc hO74 (.inr g_b1)).loc hO76 (.inr g_b1)).loc hO78 (.inr g_b1)).trNew hN98).trNew hN100).trNew hN103
         have gA_A106 := gA_moved hF mv111 gA_B53
         clear O56
         replace B4 := B4.only hO110 ap_B53_b1
         refine Zhb ⟨B4, trivial⟩ ?_
         refine Zh1 8 ?_
         replace B9 := B9.only hO110 ap_B53_b6
         refine ZsS sz42 (rcE.all _) B9 (rcE.size _) (rcE.size _) fun w112 hO113 hBq => ?_
         replace B9 := hBq
         clear hBq
         replace B4 := B4.only hO113 ne_b1_b6
         refine Zhb ⟨B4, trivial⟩ ?_
         refine Zhn ?_
         refine Ztl ?_
         refine Za ?_
         refine Za ?_
         refine Znn ?_
         refine Zrt ?_
         refine Zre rfl [_, _, _] ⟨⟨_, rfl, loadV_E (E := rcE) ag42 rfl (B9.rangeE rcE)⟩, rfl, rfl, trivial⟩ ?_
         have hb : rBusy (RD.mk id n ways L ak al aw gv gx) line = false := hc13
         have ht : rThere (RD.mk id n ways L ak al aw gv gx) line wr = false := hc16
         have hfl : rFull (RD.mk id n ways L ak al aw gv gx) line = true := by unfold rFull; rw [← hos]; exact hc43
         have hos9 : ofs (RD.mk id n ways L ak al aw gv gx).n (RD.mk id n ways L ak al aw gv gx).M (si (RD.mk id n ways L ak al aw gv gx).n line) = os := hos.symm
         have hvv : rVic (RD.mk id n ways L ak al aw gv gx) line pick = os.getD (pickAt pick os.length) ln0 := by unfold rVic; rw [hos9]
         have hq : rAskF (RD.mk id n ways L ak al aw gv gx) line hnum wr pick = ((RD.mk id n ways ((rOutF (RD.mk id n ways L (ak) al (aw) (gv) gx) (os.getD (pickAt pick os.length) ln0)).1.M) true line (wr) ((rOutF (RD.mk id n ways L (ak) al (aw) (gv) gx) (os.getD (pickAt pick os.length) ln0)).1.gv) ((rOutF (RD.mk id n ways L (ak) al (aw) (gv) gx) (os.getD (pickAt pick os.length) ln0)).1.gx)), ((rOutF (RD.mk id n ways L (ak) al (aw) (gv) gx) (os.getD (pickAt pick os.length) ln0)).2.1) ++ ([(mkM 1 id 4 line)]), 0) := by unfold rAskF; rw [if_neg (show ¬ rBusy (RD.mk id n ways L ak al aw gv gx) line = true by rw [hb]; decide), if_neg (show ¬ rThere (RD.mk id n ways L ak al aw gv gx) line wr = true by rw [ht]; decide), if_pos hfl, hvv, if_pos (by simpa using hc68)]; simp only [askM, hc79, if_true, Bool.false_eq_true, if_false]; try rfl
         replace V55 := ((((((((((V55.new hN63).only hO67 (Apart.ne1 ap_A51_b61)).only hO72 (Apart.ne1 ap_A51_b1)).only hO74 (Apart.ne1 ap_A51_b1)).only hO76 (Apart.ne1 ap_A51_b1)).only hO78 (Apart.ne1 ap_A51_b1)).new hN98).new hN100).new hN103).only hO110 (fun g h1 h2 => ap2_A51_B53 g h1 h2)).only hO113 (Apart.ne1 ap_A51_b6)
         replace hF := (hF.locA hO110 gA_B53).loc hO113 (.inr g_b6)
         replace O109 := O109.only hO113 (Apart.ne1 ap_A106_b6)
         exact ⟨_, rfl, refR_mk (r' := (RD.mk id n ways ((rOutF (RD.mk id n ways L (ak) al (aw) (gv) gx) (os.getD (pickAt pick os.length) ln0)).1.M) true line (wr) ((rOutF (RD.mk id n ways L (ak) al (aw) (gv) gx) (os.getD (pickAt pick os.length) ln0)).1.gv) ((rOutF (RD.mk id n ways L (ak) al (aw) (gv) gx) (os.getD (pickAt pick os.length) ln0)).1.gx))) (A' := A51) (cap' := cap52) (B := A106) (cB := cap107) (l := ((rOutF (RD.mk id n ways L (ak) al (aw) (gv) gx) (os.getD (pickAt pick os.length) ln0)).2.1) ++ ([(mkM 1 id 4 line)])) hq V55 (O109).view mA_A51 (fun g hg => (gA_A106 g hg).resolve_left (fun h => h)) hF⟩
      ·refine Zna (z := zv4) (cs := rcE.arr rc0) (by kernel_rfl) fun b114 w115 hN116 B117 hb118 => ?_
       have ap_A_b114 : Apart A b114 := hV.apart hb118
       have ne_b1_b114 : NE b1 b114 := NE.mk (Nat.lt_of_lt_of_le B4.lt hb118)
       replace B9 := B9.new hN45
       have ne_b6_b114 : NE b6 b114 := NE.mk (Nat.lt_of_lt_of_le B9.lt hb118)
       have ap_Sx_b114 : Apart Sx b114 := Oo.apart hb118
       replace hF := hF.trNew hN45
       have g_b114 := Nat.le_trans hF.size hb118
       replace hV := hV.new hN116
       replace B4 := B4.new hN116
       replace Oo := Oo.new hN116
       refine Zhb ⟨hV, B4, Oo, trivial⟩ ?_
       refine Zh1 8 ?_
       refine Zk (args := #[.agg (rcE.arr (RC.mk id ((n : Nat) : Int) ways A L.length cap (ak) al (aw) (gv) gx)), .agg (lnE.arr (os.getD (pickAt pick os.length) ln0))]) cf62 (rcout_c (os.getD (pickAt pick os.length) ln0) (hV) (by omega) (by omega)) ?_
       rintro v w127 ⟨A119, cap120, B121, cB122, rfl, V123, O124, mv125, hB126, ap2_A119_B121, hN128⟩
       replace hF := hF.trNew hN116
       have mA_A119 : ∀ g, inA A119 g → inA A g ∨ w.heap.size ≤ g := fun g hg => (mv125 g hg).imp (fun h => h) (fun h => Nat.le_trans hF.size h)
       have ap_A119_b1 : Apart A119 b1 := moved_apart mv125 ap_A_b1 B4.lt
       replace B9 := B9.new hN116
       have ap_A119_b6 : Apart A119 b6 := moved_apart mv125 ap_A_b6 B9.lt
       have ap_A119_b114 : Apart A119 b114 := moved_apart mv125 ap_A_b114 B117.lt
       have ap_B121_b1 : Apart B121 b1 := new_apart hB126 B4.lt
       have ap_B121_b6 : Apart B121 b6 := new_apart hB126 B9.lt
       have ap_B121_b114 : Apart B121 b114 := new_apart hB126 B117.lt
       have gA_B121 := gA_new hF hB126
       have hol_A119 := rOutF_len (RD.mk id n ways L (ak) al (aw) (gv) gx) (os.getD (pickAt pick os.length) ln0)
       replace hV := hV.new hN128
       replace B4 := B4.new hN128
       replace Oo := Oo.new hN128
       refine Zhb ⟨hV, B4, Oo, trivial⟩ ?_
       have hS9 := And.intro hV (And.intro B4 (And.intro Oo trivial))
       refine Zhm 9 hS9 ?_
       refine Zhx 10 hS9 ?_
       refine Zhx 11 hS9 ?_
       refine Zhx 12 hS9 ?_
       refine Zh1 14 ?_
       replace B117 := B117.new hN128
       refine ZsS sz42 (rcE.all _) B117 (rcE.size _) (rcE.size _) fun w129 hO130 hBq => ?_
       replace B117 := hBq
       clear hBq
       replace hV := hV.only hO130 (Apart.ne1 ap_A_b114)
       replace B4 := B4.only hO130 ne_b1_b114
       replace Oo := Oo.only hO130 (Apart.ne1 ap_Sx_b114)
       refine Zhb ⟨hV, B4, Oo, trivial⟩ ?_
       have hS9 := And.intro hV (And.intro B4 (And.intro Oo trivial))
       refine Zha 15 hS9 ?_
       refine Zhn ?_
       refine Ztl ?_
       refine Za ?_
       refine Znn ?_
       refine Zsq ?_
       refine Zsr ?_
       refine Zm ?_
       refine Zv _ (fun _ fr => x_not rfl (fr.ev rfl) rfl) ?_
       refine Znn ?_
       refine Zcd (fun hc131 => ?_) (fun hc131 => ?_)
       ·refine Zsr ?_
        refine ZE rcE ag42 (B4.rangeE rcE) ?_
        replace B9 := (B9.new hN128).only hO130 ne_b6_b114
        refine ZsS sz42 (rcE.all _) B9 (rcE.size _) (rcE.size _) fun w132 hO133 hBq => ?_
        replace B9 := hBq
        clear hBq
        refine Za ?_
        refine Za ?_
        refine Znn ?_
        refine Zrt ?_
        refine Zr1 ?_
        refine Zr1 ?_
        refine Zre rfl [_, _, _] ⟨⟨_, rfl, loadV_E (E := rcE) ag42 rfl (B9.rangeE rcE)⟩, rfl, rfl, trivial⟩ ?_
        have hb : rBusy (RD.mk id n ways L ak al aw gv gx) line = false := hc13
        have ht : rThere (RD.mk id n ways L ak al aw gv gx) line wr = false := hc16
        have hfl : rFull (RD.mk id n ways L ak al aw gv gx) line = true := by unfold rFull; rw [← hos]; exact hc43
        have hos9 : ofs (RD.mk id n ways L ak al aw gv gx).n (RD.mk id n ways L ak al aw gv gx).M (si (RD.mk id n ways L ak al aw gv gx).n line) = os := hos.symm
        have hvv : rVic (RD.mk id n ways L ak al aw gv gx) line pick = os.getD (pickAt pick os.length) ln0 := by unfold rVic; rw [hos9]
        have hq : rAskF (RD.mk id n ways L ak al aw gv gx) line hnum wr pick = ((RD.mk id n ways L (ak) al (aw) (gv) gx), ([] : List Msg), 230) := by unfold rAskF; rw [if_neg (show ¬ rBusy (RD.mk id n ways L ak al aw gv gx) line = true by rw [hb]; decide), if_neg (show ¬ rThere (RD.mk id n ways L ak al aw gv gx) line wr = true by rw [ht]; decide), if_pos hfl, hvv, if_neg (by simpa using hc131)]
        replace hF := ((hF.trNew hN128).loc hO130 (.inr g_b114)).loc hO133 (.inr g_b6)
        replace hV := hV.only hO133 (Apart.ne1 ap_A_b6)
        exact ⟨_, rfl, refR_mk (r' := (RD.mk id n ways L (ak) al (aw) (gv) gx)) (A' := A) (cap' := cap) (B := none) (cB := 0) (l := ([] : List Msg)) hq hV View.nil (fun g hg => .inl hg) (fun g hg => absurd hg (apart_none g)) hF⟩
       ·refine Zsk ?_
        refine Znx ?_
        refine Zrg ?_
        refine ZE rcE ag42 (B117.rangeE rcE) ?_
        refine Zm ?_
        refine ZsS sz42 (rcE.all _) B4 (rcE.size _) (rcE.size _) fun w134 hO135 hBq => ?_
        replace B4 := hBq
        clear hBq
        refine Za ?_
        refine Znn ?_
        refine Zsr ?_
        refine Zm ?_
        refine Zm ?_
        refine Zf fo42_4 ?_
        refine Zs1 (cs' := rcE.arr (RC.mk id ((n : Nat) : Int) ways A119 ((rOutF (RD.mk id n ways L (ak) al (aw) (gv) gx) (os.getD (pickAt pick os.length) ln0)).1.M.length) cap120 true al (aw) ((rOutF (RD.mk id n ways L (ak) al (aw) (gv) gx) (os.getD (pickAt pick os.length) ln0)).1.gv) ((rOutF (RD.mk id n ways L (ak) al (aw) (gv) gx) (os.getD (pickAt pick os.length) ln0)).1.gx))) sz4 B4 (by rw [rcE.size]; decide) (rc_set4 _ _) fun w136 hO137 hBq => ?_
        replace B4 := hBq
        clear hBq
        refine Zf fo42_5 ?_
        refine Zs1 (cs' := rcE.arr (RC.mk id ((n : Nat) : Int) ways A119 ((rOutF (RD.mk id n ways L (ak) al (aw) (gv) gx) (os.getD (pickAt pick os.length) ln0)).1.M.length) cap120 true line (aw) ((rOutF (RD.mk id n ways L (ak) al (aw) (gv) gx) (os.getD (pickAt pick os.length) ln0)).1.gv) ((rOutF (RD.mk id n ways L (ak) al (aw) (gv) gx) (os.getD (pickAt pick os.length) ln0)).1.gx))) sz32 B4 (by rw [rcE.size]; decide) (rc_set5 _ _) fun w138 hO139 hBq => ?_
        replace B4 := hBq
        clear hBq
        refine Zf fo42_6 ?_
        refine Zs1 (cs' := rcE.arr (RC.mk id ((n : Nat) : Int) ways A119 ((rOutF (RD.mk id n ways L (ak) al (aw) (gv) gx) (os.getD (pickAt pick os.length) ln0)).1.M.length) cap120 true line (wr) ((rOutF (RD.mk id n ways L (ak) al (aw) (gv) gx) (os.getD (pickAt pick os.length) ln0)).1.gv) ((rOutF (RD.mk id n ways L (ak) al (aw) (gv) gx) (os.getD (pickAt pick os.length) ln0)).1.gx))) sz4 B4 (by rw [rcE.size]; decide) (rc_set6 _ _) fun w140 hO141 hBq => ?_
        replace B4 := hBq
        clear hBq
        refine Znn ?_
        refine Zsr ?_
        refine Za ?_
        refine Znn ?_
        refine Zsq ?_
        refine Zsr ?_
        refine Zm ?_
        refine Znn ?_
        refine Zcd (fun hc142 => ?_) (fun hc142 => ?_)
        ·refine Zrg ?_
         refine Za ?_
         refine Znn ?_
         refine Zsq ?_
         refine ZhT (n := 9) 9 (fun w => Blk w b1 42 (rcE.arr (RC.mk id ((n : Nat) : Int) ways A119 ((rOutF (RD.mk id n ways L (ak) al (aw) (gv) gx) (os.getD (pickAt pick os.length) ln0)).1.M.length) cap120 true line (wr) ((rOutF (RD.mk id n ways L (ak) al (aw) (gv) gx) (os.getD (pickAt pick os.length) ln0)).1.gv) ((rOutF (RD.mk id n ways L (ak) al (aw) (gv) gx) (os.getD (pickAt pick os.length) ln0)).1.gx))) ∧ True) ?_
         intro w143 hN144
         replace B4 := B4.new hN144
         have hS9 := And.intro B4 trivial
         refine ZhE 0 rcE ag42 hS9 (fun _ ⟨B4, _⟩ => (B4.rangeE rcE)) ?_
         refine Zhm 1 hS9 ?_
         refine ZhE 2 rcE ag42 hS9 (fun _ ⟨B4, _⟩ => (B4.rangeE rcE)) ?_
         refine Zhm 3 hS9 ?_
         refine Zhm 4 hS9 ?_
         refine Zh1 5 ?_
         refine Zk (args := #[.agg (rcE.arr (RC.mk id ((n : Nat) : Int) ways A119 ((rOutF (RD.mk id n ways L (ak) al (aw) (gv) gx) (os.getD (pickAt pick os.length) ln0)).1.M.length) cap120 true line (wr) ((rOutF (RD.mk id n ways L (ak) al (aw) (gv) gx) (os.getD (pickAt pick os.length) ln0)).1.gv) ((rOutF (RD.mk id n ways L (ak) al (aw) (gv) gx) (os.getD (pickAt pick os.length) ln0)).1.gx))), .int .i64 2, .int .u32 line]) cf64 (rcmsg_c 2 line (by omega) _) ?_
         rintro v w145 ⟨rfl, hN146⟩
         replace B4 := B4.new hN146
         refine Zhb ⟨B4, trivial⟩ ?_
         refine Zh1 6 ?_
         intro a fr
         refine fx_build1 (E := msgE) (p := (mkM 2 id 4 line)) elMsg (by decide) fr rfl rfl (by decide) rfl (fr.ev rfl) ?_
         clear fr a
         intro A147 w148 hN149 O150 hA151
         replace B4 := B4.new hN149
         refine Zhb ⟨B4, trivial⟩ ?_
         refine Zh1 7 ?_
         intro a fr
         replace O124 := (((((((O124.only hO130 (Apart.ne1 ap_B121_b114)).only hO135 (Apart.ne1 ap_B121_b1)).only hO137 (Apart.ne1 ap_B121_b1)).only hO139 (Apart.ne1 ap_B121_b1)).only hO141 (Apart.ne1 ap_B121_b1)).new hN144).new hN146).new hN149
         refine fx_append (E := msgE) (l := (rOutF (RD.mk id n ways L (ak) al (aw) (gv) gx) (os.getD (pickAt pick os.length) ln0)).2.1) (l' := [(mkM 2 id 4 line)]) elMsg fr rfl rfl (by decide) rfl (fr.ev rfl) (fr.ev rfl) (by first | rfl | (simp; done) | (simp; omega)) (by first | rfl | (simp; done) | (simp; omega)) O124 O150.view (by first | omega | (simp only [List.length_append, List.length_cons, List.length_nil, List.nil_append]; omega) | (simp only [List.length_append, List.length_cons, List.length_nil, maxLen]; omega)) (by first | (unfold maxLen; done) | (unfold maxLen; first | omega | (simp only [List.length_append, List.length_cons, List.length_nil]; omega) | (simp; done) | (simp; omega))) ?_
         clear fr a
         intro A152 cap153 w154 O155 hO156 mv157
         replace B9 := ((((((((B9.new hN128).only hO130 ne_b6_b114).only hO135 ne_b1_b6.symm).only hO137 ne_b1_b6.symm).only hO139 ne_b1_b6.symm).only hO141 ne_b1_b6.symm).new hN144).new hN146).new hN149
         have ap_A152_b6 : Apart A152 b6 := moved_apart mv157 ap_B121_b6 B9.lt
         replace hF := ((((((((hF.trNew hN128).loc hO130 (.inr g_b114)).loc hO135 (.inr g_b1)).loc hO137 (.inr g_b1)).loc hO139 (.inr g_b1)).loc hO141 (.inr g_b1)).trNew hN144).trNew hN146).trNew hN149
         have gA_A152 := gA_moved hF mv157 gA_B121
         clear O124
         replace B4 := B4.only hO156 ap_B121_b1
         refine Zhb ⟨B4, trivial⟩ ?_
         refine Zh1 8 ?_
         replace B9 := B9.only hO156 ap_B121_b6
         refine ZsS sz42 (rcE.all _) B9 (rcE.size _) (rcE.size _) fun w158 hO159 hBq => ?_
         replace B9 := hBq
         clear hBq
         replace B4 := B4.only hO159 ne_b1_b6
         refine Zhb ⟨B4, trivial⟩ ?_
         refine Zhn ?_
         refine Ztl ?_
         refine Za ?_
         refine Za ?_
         refine Znn ?_
         refine Zrt ?_
         refine Zre rfl [_, _, _] ⟨⟨_, rfl, loadV_E (E := rcE) ag42 rfl (B9.rangeE rcE)⟩, rfl, rfl, trivial⟩ ?_
         have hb : rBusy (RD.mk id n ways L ak al aw gv gx) line = false := hc13
         have ht : rThere (RD.mk id n ways L ak al aw gv gx) line wr = false := hc16
         have hfl : rFull (RD.mk id n ways L ak al aw gv gx) line = true := by unfold rFull; rw [← hos]; exact hc43
         have hos9 : ofs (RD.mk id n ways L ak al aw gv gx).n (RD.mk id n ways L ak al aw gv gx).M (si (RD.mk id n ways L ak al aw gv gx).n line) = os := hos.symm
         have hvv : rVic (RD.mk id n ways L ak al aw gv gx) line pick = os.getD (pickAt pick os.length) ln0 := by unfold rVic; rw [hos9]
         have hq : rAskF (RD.mk id n ways L ak al aw gv gx) line hnum wr pick = ((RD.mk id n ways ((rOutF (RD.mk id n ways L (ak) al (aw) (gv) gx) (os.getD (pickAt pick os.length) ln0)).1.M) true line (wr) ((rOutF (RD.mk id n ways L (ak) al (aw) (gv) gx) (os.getD (pickAt pick os.length) ln0)).1.gv) ((rOutF (RD.mk id n ways L (ak) al (aw) (gv) gx) (os.getD (pickAt pick os.length) ln0)).1.gx)), ((rOutF (RD.mk id n ways L (ak) al (aw) (gv) gx) (os.getD (pickAt pick os.length) ln0)).2.1) ++ ([(mkM 2 id 4 line)]), 0) := by unfold rAskF; rw [if_neg (show ¬ rBusy (RD.mk id n ways L ak al aw gv gx) line = true by rw [hb]; decide), if_neg (show ¬ rThere (RD.mk id n ways L ak al aw gv gx) line wr = true by rw [ht]; decide), if_pos hfl, hvv, if_pos (by simpa using hc131)]; simp only [askM, hc142, if_true, Bool.false_eq_true, if_false]; try rfl
         replace V123 := (((((((((V123.only hO130 (Apart.ne1 ap_A119_b114)).only hO135 (Apart.ne1 ap_A119_b1)).only hO137 (Apart.ne1 ap_A119_b1)).only hO139 (Apart.ne1 ap_A119_b1)).only hO141 (Apart.ne1 ap_A119_b1)).new hN144).new hN146).new hN149).only hO156 (fun g h1 h2 => ap2_A119_B121 g h1 h2)).only hO159 (Apart.ne1 ap_A119_b6)
         replace hF := (hF.locA hO156 gA_B121).loc hO159 (.inr g_b6)
         replace O155 := O155.only hO159 (Apart.ne1 ap_A152_b6)
         exact ⟨_, rfl, refR_mk (r' := (RD.mk id n ways ((rOutF (RD.mk id n ways L (ak) al (aw) (gv) gx) (os.getD (pickAt pick os.length) ln0)).1.M) true line (wr) ((rOutF (RD.mk id n ways L (ak) al (aw) (gv) gx) (os.getD (pickAt pick os.length) ln0)).1.gv) ((rOutF (RD.mk id n ways L (ak) al (aw) (gv) gx) (os.getD (pickAt pick os.length) ln0)).1.gx))) (A' := A119) (cap' := cap120) (B := A152) (cB := cap153) (l := ((rOutF (RD.mk id n ways L (ak) al (aw) (gv) gx) (os.getD (pickAt pick os.length) ln0)).2.1) ++ ([(mkM 2 id 4 line)])) hq V123 (O155).view mA_A119 (fun g hg => (gA_A152 g hg).resolve_left (fun h => h)) hF⟩
        ·refine Zsk ?_
         refine Znx ?_
         refine Zsq ?_
         refine ZhT (n := 9) 9 (fun w => Blk w b1 42 (rcE.arr (RC.mk id ((n : Nat) : Int) ways A119 ((rOutF (RD.mk id n ways L (ak) al (aw) (gv) gx) (os.getD (pickAt pick os.length) ln0)).1.M.length) cap120 true line (wr) ((rOutF (RD.mk id n ways L (ak) al (aw) (gv) gx) (os.getD (pickAt pick os.length) ln0)).1.gv) ((rOutF (RD.mk id n ways L (ak) al (aw) (gv) gx) (os.getD (pickAt pick os.length) ln0)).1.gx))) ∧ True) ?_
         intro w160 hN161
         replace B4 := B4.new hN161
         have hS9 := And.intro B4 trivial
         refine ZhE 0 rcE ag42 hS9 (fun _ ⟨B4, _⟩ => (B4.rangeE rcE)) ?_
         refine Zhm 1 hS9 ?_
         refine ZhE 2 rcE ag42 hS9 (fun _ ⟨B4, _⟩ => (B4.rangeE rcE)) ?_
         refine Zhm 3 hS9 ?_
         refine Zhm 4 hS9 ?_
         refine Zh1 5 ?_
         refine Zk (args := #[.agg (rcE.arr (RC.mk id ((n : Nat) : Int) ways A119 ((rOutF (RD.mk id n ways L (ak) al (aw) (gv) gx) (os.getD (pickAt pick os.length) ln0)).1.M.length) cap120 true line (wr) ((rOutF (RD.mk id n ways L (ak) al (aw) (gv) gx) (os.getD (pickAt pick os.length) ln0)).1.gv) ((rOutF (RD.mk id n ways L (ak) al (aw) (gv) gx) (os.getD (pickAt pick os.length) ln0)).1.gx))), .int .i64 1, .int .u32 line]) cf64 (rcmsg_c 1 line (by omega) _) ?_
         rintro v w162 ⟨rfl, hN163⟩
         replace B4 := B4.new hN163
         refine Zhb ⟨B4, trivial⟩ ?_
         refine Zh1 6 ?_
         intro a fr
         refine fx_build1 (E := msgE) (p := (mkM 1 id 4 line)) elMsg (by decide) fr rfl rfl (by decide) rfl (fr.ev rfl) ?_
         clear fr a
         intro A164 w165 hN166 O167 hA168
         replace B4 := B4.new hN166
         refine Zhb ⟨B4, trivial⟩ ?_
         refine Zh1 7 ?_
         intro a fr
         replace O124 := (((((((O124.only hO130 (Apart.ne1 ap_B121_b114)).only hO135 (Apart.ne1 ap_B121_b1)).only hO137 (Apart.ne1 ap_B121_b1)).only hO139 (Apart.ne1 ap_B121_b1)).only hO141 (Apart.ne1 ap_B121_b1)).new hN161).new hN163).new hN166
         refine fx_append (E := msgE) (l := (rOutF (RD.mk id n ways L (ak) al (aw) (gv) gx) (os.getD (pickAt pick os.length) ln0)).2.1) (l' := [(mkM 1 id 4 line)]) elMsg fr rfl rfl (by decide) rfl (fr.ev rfl) (fr.ev rfl) (by first | rfl | (simp; done) | (simp; omega)) (by first | rfl | (simp; done) | (simp; omega)) O124 O167.view (by first | omega | (simp only [List.length_append, List.length_cons, List.length_nil, List.nil_append]; omega) | (simp only [List.length_append, List.length_cons, List.length_nil, maxLen]; omega)) (by first | (unfold maxLen; done) | (unfold maxLen; first | omega | (simp only [List.length_append, List.length_cons, List.length_nil]; omega) | (simp; done) | (simp; omega))) ?_
         clear fr a
         intro A169 cap170 w171 O172 hO173 mv174
         replace B9 := ((((((((B9.new hN128).only hO130 ne_b6_b114).only hO135 ne_b1_b6.symm).only hO137 ne_b1_b6.symm).only hO139 ne_b1_b6.symm).only hO141 ne_b1_b6.symm).new hN161).new hN163).new hN166
         have ap_A169_b6 : Apart A169 b6 := moved_apart mv174 ap_B121_b6 B9.lt
         replace hF := ((((((((hF.trNew hN128).loc hO130 (.inr g_b114)).loc hO135 (.inr g_b1)).loc hO137 (.inr g_b1)).loc hO139 (.inr g_b1)).loc hO141 (.inr g_b1)).trNew hN161).trNew hN163).trNew hN166
         have gA_A169 := gA_moved hF mv174 gA_B121
         clear O124
         replace B4 := B4.only hO173 ap_B121_b1
         refine Zhb ⟨B4, trivial⟩ ?_
         refine Zh1 8 ?_
         replace B9 := B9.only hO173 ap_B121_b6
         refine ZsS sz42 (rcE.all _) B9 (rcE.size _) (rcE.size _) fun w175 hO176 hBq => ?_
         replace B9 := hBq
         clear hBq
         replace B4 := B4.only hO176 ne_b1_b6
         refine Zhb ⟨B4, trivial⟩ ?_
         refine Zhn ?_
         refine Ztl ?_
         refine Za ?_
         refine Za ?_
         refine Znn ?_
         refine Zrt ?_
         refine Zre rfl [_, _, _] ⟨⟨_, rfl, loadV_E (E := rcE) ag42 rfl (B9.rangeE rcE)⟩, rfl, rfl, trivial⟩ ?_
         have hb : rBusy (RD.mk id n ways L ak al aw gv gx) line = false := hc13
         have ht : rThere (RD.mk id n ways L ak al aw gv gx) line wr = false := hc16
         have hfl : rFull (RD.mk id n ways L ak al aw gv gx) line = true := by unfold rFull; rw [← hos]; exact hc43
         have hos9 : ofs (RD.mk id n ways L ak al aw gv gx).n (RD.mk id n ways L ak al aw gv gx).M (si (RD.mk id n ways L ak al aw gv gx).n line) = os := hos.symm
         have hvv : rVic (RD.mk id n ways L ak al aw gv gx) line pick = os.getD (pickAt pick os.length) ln0 := by unfold rVic; rw [hos9]
         have hq : rAskF (RD.mk id n ways L ak al aw gv gx) line hnum wr pick = ((RD.mk id n ways ((rOutF (RD.mk id n ways L (ak) al (aw) (gv) gx) (os.getD (pickAt pick os.length) ln0)).1.M) true line (wr) ((rOutF (RD.mk id n ways L (ak) al (aw) (gv) gx) (os.getD (pickAt pick os.length) ln0)).1.gv) ((rOutF (RD.mk id n ways L (ak) al (aw) (gv) gx) (os.getD (pickAt pick os.length) ln0)).1.gx)), ((rOutF (RD.mk id n ways L (ak) al (aw) (gv) gx) (os.getD (pickAt pick os.length) ln0)).2.1) ++ ([(mkM 1 id 4 line)]), 0) := by unfold rAskF; rw [if_neg (show ¬ rBusy (RD.mk id n ways L ak al aw gv gx) line = true by rw [hb]; decide), if_neg (show ¬ rThere (RD.mk id n ways L ak al aw gv gx) line wr = true by rw [ht]; decide), if_pos hfl, hvv, if_pos (by simpa using hc131)]; simp only [askM, hc142, if_true, Bool.false_eq_true, if_false]; try rfl
         replace V123 := (((((((((V123.only hO130 (Apart.ne1 ap_A119_b114)).only hO135 (Apart.ne1 ap_A119_b1)).only hO137 (Apart.ne1 ap_A119_b1)).only hO139 (Apart.ne1 ap_A119_b1)).only hO141 (Apart.ne1 ap_A119_b1)).new hN161).new hN163).new hN166).only hO173 (fun g h1 h2 => ap2_A119_B121 g h1 h2)).only hO176 (Apart.ne1 ap_A119_b6)
         replace hF := (hF.locA hO173 gA_B121).loc hO176 (.inr g_b6)
         replace O172 := O172.only hO176 (Apart.ne1 ap_A169_b6)
         exact ⟨_, rfl, refR_mk (r' := (RD.mk id n ways ((rOutF (RD.mk id n ways L (ak) al (aw) (gv) gx) (os.getD (pickAt pick os.length) ln0)).1.M) true line (wr) ((rOutF (RD.mk id n ways L (ak) al (aw) (gv) gx) (os.getD (pickAt pick os.length) ln0)).1.gv) ((rOutF (RD.mk id n ways L (ak) al (aw) (gv) gx) (os.getD (pickAt pick os.length) ln0)).1.gx))) (A' := A119) (cap' := cap120) (B := A169) (cB := cap170) (l := ((rOutF (RD.mk id n ways L (ak) al (aw) (gv) gx) (os.getD (pickAt pick os.length) ln0)).2.1) ++ ([(mkM 1 id 4 line)])) hq V123 (O172).view mA_A119 (fun g hg => (gA_A169 g hg).resolve_left (fun h => h)) hF⟩
     ·refine Zna (z := zv4) (cs := rcE.arr rc0) (by kernel_rfl) fun b177 w178 hN179 B180 hb181 => ?_
      have ap_A_b177 : Apart A b177 := hV.apart hb181
      have ne_b1_b177 : NE b1 b177 := NE.mk (Nat.lt_of_lt_of_le B4.lt hb181)
      replace B9 := B9.new hN45
      have ne_b6_b177 : NE b6 b177 := NE.mk (Nat.lt_of_lt_of_le B9.lt hb181)
      have ap_Sx_b177 : Apart Sx b177 := Oo.apart hb181
      replace hF := hF.trNew hN45
      have g_b177 := Nat.le_trans hF.size hb181
      replace hV := hV.new hN179
      replace B4 := B4.new hN179
      replace Oo := Oo.new hN179
      refine Zhb ⟨hV, B4, Oo, trivial⟩ ?_
      refine Zh1 5 ?_
      refine Zk (args := #[.int .i64 pick, .int .i64 ((os.length : Nat) : Int)]) cf63 (choice_c pick (n := os.length) (by omega) (by omega) _) ?_
      rintro v w9 ⟨rfl, hw9⟩
      obtain rfl := hw9.symm
      refine Zhb ⟨hV, B4, Oo, trivial⟩ ?_
      obtain ⟨g184, o185, hA186⟩ := (Oo.view).some_ (by omega)
      have hS9 := And.intro hV (And.intro B4 (And.intro Oo trivial))
      refine Zht 6 rfl (.pointer (some ⟨g184, o185 + (pickAt pick os.length) * 18, none⟩)) hS9 (fun _ fr _ _ => x_indexV Try.underlying40 sz39 rfl (fr.ev rfl) hA186 (fr.ev rfl) (by omega) rfl) ?_
      refine ZhE 7 lnE ag39 hS9 (fun _ ⟨_, _, Oo, _⟩ => ((Oo.view).elem hA186 (pickAt pick os.length) ln0 (by omega))) ?_
      refine Zh1 8 ?_
      refine Zk (args := #[.agg (rcE.arr (RC.mk id ((n : Nat) : Int) ways A L.length cap (ak) al (aw) (gv) gx)), .agg (lnE.arr (os.getD (pickAt pick os.length) ln0))]) cf62 (rcout_c (os.getD (pickAt pick os.length) ln0) (hV) (by omega) (by omega)) ?_
      rintro v w195 ⟨A187, cap188, B189, cB190, rfl, V191, O192, mv193, hB194, ap2_A187_B189, hN196⟩
      replace hF := hF.trNew hN179
      have mA_A187 : ∀ g, inA A187 g → inA A g ∨ w.heap.size ≤ g := fun g hg => (mv193 g hg).imp (fun h => h) (fun h => Nat.le_trans hF.size h)
      have ap_A187_b1 : Apart A187 b1 := moved_apart mv193 ap_A_b1 B4.lt
      replace B9 := B9.new hN179
      have ap_A187_b6 : Apart A187 b6 := moved_apart mv193 ap_A_b6 B9.lt
      have ap_A187_b177 : Apart A187 b177 := moved_apart mv193 ap_A_b177 B180.lt
      have ap_B189_b1 : Apart B189 b1 := new_apart hB194 B4.lt
      have ap_B189_b6 : Apart B189 b6 := new_apart hB194 B9.lt
      have ap_B189_b177 : Apart B189 b177 := new_apart hB194 B180.lt
      have gA_B189 := gA_new hF hB194
      have hol_A187 := rOutF_len (RD.mk id n ways L (ak) al (aw) (gv) gx) (os.getD (pickAt pick os.length) ln0)
      replace hV := hV.new hN196
      replace B4 := B4.new hN196
      replace Oo := Oo.new hN196
      refine Zhb ⟨hV, B4, Oo, trivial⟩ ?_
      have hS9 := And.intro hV (And.intro B4 (And.intro Oo trivial))
      refine Zhm 9 hS9 ?_
      refine Zhx 10 hS9 ?_
      refine Zhx 11 hS9 ?_
      refine Zhx 12 hS9 ?_
      refine Zh1 14 ?_
      replace B180 := B180.new hN196
      refine ZsS sz42 (rcE.all _) B180 (rcE.size _) (rcE.size _) fun w197 hO198 hBq => ?_
      replace B180 := hBq
      clear hBq
      replace hV := hV.only hO198 (Apart.ne1 ap_A_b177)
      replace B4 := B4.only hO198 ne_b1_b177
      replace Oo := Oo.only hO198 (Apart.ne1 ap_Sx_b177)
      refine Zhb ⟨hV, B4, Oo, trivial⟩ ?_
      have hS9 := And.intro hV (And.intro B4 (And.intro Oo trivial))
      refine Zha 15 hS9 ?_
      refine Zhn ?_
      refine Ztl ?_
      refine Za ?_
      refine Znn ?_
      refine Zsq ?_
      refine Zsr ?_
      refine Zm ?_
      refine Zv _ (fun _ fr => x_not rfl (fr.ev rfl) rfl) ?_
      refine Znn ?_
      refine Zcd (fun hc199 => ?_) (fun hc199 => ?_)
      ·refine Zsr ?_
       refine ZE rcE ag42 (B4.rangeE rcE) ?_
       replace B9 := (B9.new hN196).only hO198 ne_b6_b177
       refine ZsS sz42 (rcE.all _) B9 (rcE.size _) (rcE.size _) fun w200 hO201 hBq => ?_
       replace B9 := hBq
       clear hBq
       refine Za ?_
       refine Za ?_
       refine Znn ?_
       refine Zrt ?_
       refine Zr1 ?_
       refine Zr1 ?_
       refine Zre rfl [_, _, _] ⟨⟨_, rfl, loadV_E (E := rcE) ag42 rfl (B9.rangeE rcE)⟩, rfl, rfl, trivial⟩ ?_
       have hb : rBusy (RD.mk id n ways L ak al aw gv gx) line = false := hc13
       have ht : rThere (RD.mk id n ways L ak al aw gv gx) line wr = false := hc16
       have hfl : rFull (RD.mk id n ways L ak al aw gv gx) line = true := by unfold rFull; rw [← hos]; exact hc43
       have hos9 : ofs (RD.mk id n ways L ak al aw gv gx).n (RD.mk id n ways L ak al aw gv gx).M (si (RD.mk id n ways L ak al aw gv gx).n line) = os := hos.symm
       have hvv : rVic (RD.mk id n ways L ak al aw gv gx) line pick = os.getD (pickAt pick os.length) ln0 := by unfold rVic; rw [hos9]
       have hq : rAskF (RD.mk id n ways L ak al aw gv gx) line hnum wr pick = ((RD.mk id n ways L (ak) al (aw) (gv) gx), ([] : List Msg), 230) := by unfold rAskF; rw [if_neg (show ¬ rBusy (RD.mk id n ways L ak al aw gv gx) line = true by rw [hb]; decide), if_neg (show ¬ rThere (RD.mk id n ways L ak al aw gv gx) line wr = true by rw [ht]; decide), if_pos hfl, hvv, if_neg (by simpa using hc199)]
       replace hF := ((hF.trNew hN196).loc hO198 (.inr g_b177)).loc hO201 (.inr g_b6)
       replace hV := hV.only hO201 (Apart.ne1 ap_A_b6)
       exact ⟨_, rfl, refR_mk (r' := (RD.mk id n ways L (ak) al (aw) (gv) gx)) (A' := A) (cap' := cap) (B := none) (cB := 0) (l := ([] : List Msg)) hq hV View.nil (fun g hg => .inl hg) (fun g hg => absurd hg (apart_none g)) hF⟩
      ·refine Zsk ?_
       refine Znx ?_
       refine Zrg ?_
       refine ZE rcE ag42 (B180.rangeE rcE) ?_
       refine Zm ?_
       refine ZsS sz42 (rcE.all _) B4 (rcE.size _) (rcE.size _) fun w202 hO203 hBq => ?_
       replace B4 := hBq
       clear hBq
       refine Za ?_
       refine Znn ?_
       refine Zsr ?_
       refine Zm ?_
       refine Zm ?_
       refine Zf fo42_4 ?_
       refine Zs1 (cs' := rcE.arr (RC.mk id ((n : Nat) : Int) ways A187 ((rOutF (RD.mk id n ways L (ak) al (aw) (gv) gx) (os.getD (pickAt pick os.length) ln0)).1.M.length) cap188 true al (aw) ((rOutF (RD.mk id n ways L (ak) al (aw) (gv) gx) (os.getD (pickAt pick os.length) ln0)).1.gv) ((rOutF (RD.mk id n ways L (ak) al (aw) (gv) gx) (os.getD (pickAt pick os.length) ln0)).1.gx))) sz4 B4 (by rw [rcE.size]; decide) (rc_set4 _ _) fun w204 hO205 hBq => ?_
       replace B4 := hBq
       clear hBq
       refine Zf fo42_5 ?_
       refine Zs1 (cs' := rcE.arr (RC.mk id ((n : Nat) : Int) ways A187 ((rOutF (RD.mk id n ways L (ak) al (aw) (gv) gx) (os.getD (pickAt pick os.length) ln0)).1.M.length) cap188 true line (aw) ((rOutF (RD.mk id n ways L (ak) al (aw) (gv) gx) (os.getD (pickAt pick os.length) ln0)).1.gv) ((rOutF (RD.mk id n ways L (ak) al (aw) (gv) gx) (os.getD (pickAt pick os.length) ln0)).1.gx))) sz32 B4 (by rw [rcE.size]; decide) (rc_set5 _ _) fun w206 hO207 hBq => ?_
       replace B4 := hBq
       clear hBq
       refine Zf fo42_6 ?_
       refine Zs1 (cs' := rcE.arr (RC.mk id ((n : Nat) : Int) ways A187 ((rOutF (RD.mk id n ways L (ak) al (aw) (gv) gx) (os.getD (pickAt pick os.length) ln0)).1.M.length) cap188 true line (wr) ((rOutF (RD.mk id n ways L (ak) al (aw) (gv) gx) (os.getD (pickAt pick os.length) ln0)).1.gv) ((rOutF (RD.mk id n ways L (ak) al (aw) (gv) gx) (os.getD (pickAt pick os.length) ln0)).1.gx))) sz4 B4 (by rw [rcE.size]; decide) (rc_set6 _ _) fun w208 hO209 hBq => ?_
       replace B4 := hBq
       clear hBq
       refine Znn ?_
       refine Zsr ?_
       refine Za ?_
       refine Znn ?_
       refine Zsq ?_
       refine Zsr ?_
       refine Zm ?_
       refine Znn ?_
       refine Zcd (fun hc210 => ?_) (fun hc210 => ?_)
       ·refine Zrg ?_
        refine Za ?_
        refine Znn ?_
        refine Zsq ?_
        refine ZhT (n := 9) 9 (fun w => Blk w b1 42 (rcE.arr (RC.mk id ((n : Nat) : Int) ways A187 ((rOutF (RD.mk id n ways L (ak) al (aw) (gv) gx) (os.getD (pickAt pick os.length) ln0)).1.M.length) cap188 true line (wr) ((rOutF (RD.mk id n ways L (ak) al (aw) (gv) gx) (os.getD (pickAt pick os.length) ln0)).1.gv) ((rOutF (RD.mk id n ways L (ak) al (aw) (gv) gx) (os.getD (pickAt pick os.length) ln0)).1.gx))) ∧ True) ?_
        intro w211 hN212
        replace B4 := B4.new hN212
        have hS9 := And.intro B4 trivial
        refine ZhE 0 rcE ag42 hS9 (fun _ ⟨B4, _⟩ => (B4.rangeE rcE)) ?_
        refine Zhm 1 hS9 ?_
        refine ZhE 2 rcE ag42 hS9 (fun _ ⟨B4, _⟩ => (B4.rangeE rcE)) ?_
        refine Zhm 3 hS9 ?_
        refine Zhm 4 hS9 ?_
        refine Zh1 5 ?_
        refine Zk (args := #[.agg (rcE.arr (RC.mk id ((n : Nat) : Int) ways A187 ((rOutF (RD.mk id n ways L (ak) al (aw) (gv) gx) (os.getD (pickAt pick os.length) ln0)).1.M.length) cap188 true line (wr) ((rOutF (RD.mk id n ways L (ak) al (aw) (gv) gx) (os.getD (pickAt pick os.length) ln0)).1.gv) ((rOutF (RD.mk id n ways L (ak) al (aw) (gv) gx) (os.getD (pickAt pick os.length) ln0)).1.gx))), .int .i64 2, .int .u32 line]) cf64 (rcmsg_c 2 line (by omega) _) ?_
        rintro v w213 ⟨rfl, hN214⟩
        replace B4 := B4.new hN214
        refine Zhb ⟨B4, trivial⟩ ?_
        refine Zh1 6 ?_
        intro a fr
        refine fx_build1 (E := msgE) (p := (mkM 2 id 4 line)) elMsg (by decide) fr rfl rfl (by decide) rfl (fr.ev rfl) ?_
        clear fr a
        intro A215 w216 hN217 O218 hA219
        replace B4 := B4.new hN217
        refine Zhb ⟨B4, trivial⟩ ?_
        refine Zh1 7 ?_
        intro a fr
        replace O192 := (((((((O192.only hO198 (Apart.ne1 ap_B189_b177)).only hO203 (Apart.ne1 ap_B189_b1)).only hO205 (Apart.ne1 ap_B189_b1)).only hO207 (Apart.ne1 ap_B189_b1)).only hO209 (Apart.ne1 ap_B189_b1)).new hN212).new hN214).new hN217
        refine fx_append (E := msgE) (l := (rOutF (RD.mk id n ways L (ak) al (aw) (gv) gx) (os.getD (pickAt pick os.length) ln0)).2.1) (l' := [(mkM 2 id 4 line)]) elMsg fr rfl rfl (by decide) rfl (fr.ev rfl) (fr.ev rfl) (by first | rfl | (simp; done) | (simp; omega)) (by first | rfl | (simp; done) | (simp; omega)) O192 O218.view (by first | omega | (simp only [List.length_append, List.length_cons, List.length_nil, List.nil_append]; omega) | (simp only [List.length_append, List.length_cons, List.length_nil, maxLen]; omega)) (by first | (unfold maxLen; done) | (unfold maxLen; first | omega | (simp only [List.length_append, List.length_cons, List.length_nil]; omega) | (simp; done) | (simp; omega))) ?_
        clear fr a
        intro A220 cap221 w222 O223 hO224 mv225
        replace B9 := ((((((((B9.new hN196).only hO198 ne_b6_b177).only hO203 ne_b1_b6.symm).only hO205 ne_b1_b6.symm).only hO207 ne_b1_b6.symm).only hO209 ne_b1_b6.symm).new hN212).new hN214).new hN217
        have ap_A220_b6 : Apart A220 b6 := moved_apart mv225 ap_B189_b6 B9.lt
        replace hF := ((((((((hF.trNew hN196).loc hO198 (.inr g_b177)).loc hO203 (.inr g_b1)).loc hO205 (.inr g_b1)).loc hO207 (.inr g_b1)).loc hO209 (.inr g_b1)).trNew hN212).trNew hN214).trNew hN217
        have gA_A220 := gA_moved hF mv225 gA_B189
        clear O192
        replace B4 := B4.only hO224 ap_B189_b1
        refine Zhb ⟨B4, trivial⟩ ?_
        refine Zh1 8 ?_
        replace B9 := B9.only hO224 ap_B189_b6
        refine ZsS sz42 (rcE.all _) B9 (rcE.size _) (rcE.size _) fun w226 hO227 hBq => ?_
        replace B9 := hBq
        clear hBq
        replace B4 := B4.only hO227 ne_b1_b6
        refine Zhb ⟨B4, trivial⟩ ?_
        refine Zhn ?_
        refine Ztl ?_
        refine Za ?_
        refine Za ?_
        refine Znn ?_
        refine Zrt ?_
        refine Zre rfl [_, _, _] ⟨⟨_, rfl, loadV_E (E := rcE) ag42 rfl (B9.rangeE rcE)⟩, rfl, rfl, trivial⟩ ?_
        have hb : rBusy (RD.mk id n ways L ak al aw gv gx) line = false := hc13
        have ht : rThere (RD.mk id n ways L ak al aw gv gx) line wr = false := hc16
        have hfl : rFull (RD.mk id n ways L ak al aw gv gx) line = true := by unfold rFull; rw [← hos]; exact hc43
        have hos9 : ofs (RD.mk id n ways L ak al aw gv gx).n (RD.mk id n ways L ak al aw gv gx).M (si (RD.mk id n ways L ak al aw gv gx).n line) = os := hos.symm
        have hvv : rVic (RD.mk id n ways L ak al aw gv gx) line pick = os.getD (pickAt pick os.length) ln0 := by unfold rVic; rw [hos9]
        have hq : rAskF (RD.mk id n ways L ak al aw gv gx) line hnum wr pick = ((RD.mk id n ways ((rOutF (RD.mk id n ways L (ak) al (aw) (gv) gx) (os.getD (pickAt pick os.length) ln0)).1.M) true line (wr) ((rOutF (RD.mk id n ways L (ak) al (aw) (gv) gx) (os.getD (pickAt pick os.length) ln0)).1.gv) ((rOutF (RD.mk id n ways L (ak) al (aw) (gv) gx) (os.getD (pickAt pick os.length) ln0)).1.gx)), ((rOutF (RD.mk id n ways L (ak) al (aw) (gv) gx) (os.getD (pickAt pick os.length) ln0)).2.1) ++ ([(mkM 2 id 4 line)]), 0) := by unfold rAskF; rw [if_neg (show ¬ rBusy (RD.mk id n ways L ak al aw gv gx) line = true by rw [hb]; decide), if_neg (show ¬ rThere (RD.mk id n ways L ak al aw gv gx) line wr = true by rw [ht]; decide), if_pos hfl, hvv, if_pos (by simpa using hc199)]; simp only [askM, hc210, if_true, Bool.false_eq_true, if_false]; try rfl
        replace V191 := (((((((((V191.only hO198 (Apart.ne1 ap_A187_b177)).only hO203 (Apart.ne1 ap_A187_b1)).only hO205 (Apart.ne1 ap_A187_b1)).only hO207 (Apart.ne1 ap_A187_b1)).only hO209 (Apart.ne1 ap_A187_b1)).new hN212).new hN214).new hN217).only hO224 (fun g h1 h2 => ap2_A187_B189 g h1 h2)).only hO227 (Apart.ne1 ap_A187_b6)
        replace hF := (hF.locA hO224 gA_B189).loc hO227 (.inr g_b6)
        replace O223 := O223.only hO227 (Apart.ne1 ap_A220_b6)
        exact ⟨_, rfl, refR_mk (r' := (RD.mk id n ways ((rOutF (RD.mk id n ways L (ak) al (aw) (gv) gx) (os.getD (pickAt pick os.length) ln0)).1.M) true line (wr) ((rOutF (RD.mk id n ways L (ak) al (aw) (gv) gx) (os.getD (pickAt pick os.length) ln0)).1.gv) ((rOutF (RD.mk id n ways L (ak) al (aw) (gv) gx) (os.getD (pickAt pick os.length) ln0)).1.gx))) (A' := A187) (cap' := cap188) (B := A220) (cB := cap221) (l := ((rOutF (RD.mk id n ways L (ak) al (aw) (gv) gx) (os.getD (pickAt pick os.length) ln0)).2.1) ++ ([(mkM 2 id 4 line)])) hq V191 (O223).view mA_A187 (fun g hg => (gA_A220 g hg).resolve_left (fun h => h)) hF⟩
       ·refine Zsk ?_
        refine Znx ?_
        refine Zsq ?_
        refine ZhT (n := 9) 9 (fun w => Blk w b1 42 (rcE.arr (RC.mk id ((n : Nat) : Int) ways A187 ((rOutF (RD.mk id n ways L (ak) al (aw) (gv) gx) (os.getD (pickAt pick os.length) ln0)).1.M.length) cap188 true line (wr) ((rOutF (RD.mk id n ways L (ak) al (aw) (gv) gx) (os.getD (pickAt pick os.length) ln0)).1.gv) ((rOutF (RD.mk id n ways L (ak) al (aw) (gv) gx) (os.getD (pickAt pick os.length) ln0)).1.gx))) ∧ True) ?_
        intro w228 hN229
        replace B4 := B4.new hN229
        have hS9 := And.intro B4 trivial
        refine ZhE 0 rcE ag42 hS9 (fun _ ⟨B4, _⟩ => (B4.rangeE rcE)) ?_
        refine Zhm 1 hS9 ?_
        refine ZhE 2 rcE ag42 hS9 (fun _ ⟨B4, _⟩ => (B4.rangeE rcE)) ?_
        refine Zhm 3 hS9 ?_
        refine Zhm 4 hS9 ?_
        refine Zh1 5 ?_
        refine Zk (args := #[.agg (rcE.arr (RC.mk id ((n : Nat) : Int) ways A187 ((rOutF (RD.mk id n ways L (ak) al (aw) (gv) gx) (os.getD (pickAt pick os.length) ln0)).1.M.length) cap188 true line (wr) ((rOutF (RD.mk id n ways L (ak) al (aw) (gv) gx) (os.getD (pickAt pick os.length) ln0)).1.gv) ((rOutF (RD.mk id n ways L (ak) al (aw) (gv) gx) (os.getD (pickAt pick os.length) ln0)).1.gx))), .int .i64 1, .int .u32 line]) cf64 (rcmsg_c 1 line (by omega) _) ?_
        rintro v w230 ⟨rfl, hN231⟩
        replace B4 := B4.new hN231
        refine Zhb ⟨B4, trivial⟩ ?_
        refine Zh1 6 ?_
        intro a fr
        refine fx_build1 (E := msgE) (p := (mkM 1 id 4 line)) elMsg (by decide) fr rfl rfl (by decide) rfl (fr.ev rfl) ?_
        clear fr a
        intro A232 w233 hN234 O235 hA236
        replace B4 := B4.new hN234
        refine Zhb ⟨B4, trivial⟩ ?_
        refine Zh1 7 ?_
        intro a fr
        replace O192 := (((((((O192.only hO198 (Apart.ne1 ap_B189_b177)).only hO203 (Apart.ne1 ap_B189_b1)).only hO205 (Apart.ne1 ap_B189_b1)).only hO207 (Apart.ne1 ap_B189_b1)).only hO209 (Apart.ne1 ap_B189_b1)).new hN229).new hN231).new hN234
        refine fx_append (E := msgE) (l := (rOutF (RD.mk id n ways L (ak) al (aw) (gv) gx) (os.getD (pickAt pick os.length) ln0)).2.1) (l' := [(mkM 1 id 4 line)]) elMsg fr rfl rfl (by decide) rfl (fr.ev rfl) (fr.ev rfl) (by first | rfl | (simp; done) | (simp; omega)) (by first | rfl | (simp; done) | (simp; omega)) O192 O235.view (by first | omega | (simp only [List.length_append, List.length_cons, List.length_nil, List.nil_append]; omega) | (simp only [List.length_append, List.length_cons, List.length_nil, maxLen]; omega)) (by first | (unfold maxLen; done) | (unfold maxLen; first | omega | (simp only [List.length_append, List.length_cons, List.length_nil]; omega) | (simp; done) | (simp; omega))) ?_
        clear fr a
        intro A237 cap238 w239 O240 hO241 mv242
        replace B9 := ((((((((B9.new hN196).only hO198 ne_b6_b177).only hO203 ne_b1_b6.symm).only hO205 ne_b1_b6.symm).only hO207 ne_b1_b6.symm).only hO209 ne_b1_b6.symm).new hN229).new hN231).new hN234
        have ap_A237_b6 : Apart A237 b6 := moved_apart mv242 ap_B189_b6 B9.lt
        replace hF := ((((((((hF.trNew hN196).loc hO198 (.inr g_b177)).loc hO203 (.inr g_b1)).loc hO205 (.inr g_b1)).loc hO207 (.inr g_b1)).loc hO209 (.inr g_b1)).trNew hN229).trNew hN231).trNew hN234
        have gA_A237 := gA_moved hF mv242 gA_B189
        clear O192
        replace B4 := B4.only hO241 ap_B189_b1
        refine Zhb ⟨B4, trivial⟩ ?_
        refine Zh1 8 ?_
        replace B9 := B9.only hO241 ap_B189_b6
        refine ZsS sz42 (rcE.all _) B9 (rcE.size _) (rcE.size _) fun w243 hO244 hBq => ?_
        replace B9 := hBq
        clear hBq
        replace B4 := B4.only hO244 ne_b1_b6
        refine Zhb ⟨B4, trivial⟩ ?_
        refine Zhn ?_
        refine Ztl ?_
        refine Za ?_
        refine Za ?_
        refine Znn ?_
        refine Zrt ?_
        refine Zre rfl [_, _, _] ⟨⟨_, rfl, loadV_E (E := rcE) ag42 rfl (B9.rangeE rcE)⟩, rfl, rfl, trivial⟩ ?_
        have hb : rBusy (RD.mk id n ways L ak al aw gv gx) line = false := hc13
        have ht : rThere (RD.mk id n ways L ak al aw gv gx) line wr = false := hc16
        have hfl : rFull (RD.mk id n ways L ak al aw gv gx) line = true := by unfold rFull; rw [← hos]; exact hc43
        have hos9 : ofs (RD.mk id n ways L ak al aw gv gx).n (RD.mk id n ways L ak al aw gv gx).M (si (RD.mk id n ways L ak al aw gv gx).n line) = os := hos.symm
        have hvv : rVic (RD.mk id n ways L ak al aw gv gx) line pick = os.getD (pickAt pick os.length) ln0 := by unfold rVic; rw [hos9]
        have hq : rAskF (RD.mk id n ways L ak al aw gv gx) line hnum wr pick = ((RD.mk id n ways ((rOutF (RD.mk id n ways L (ak) al (aw) (gv) gx) (os.getD (pickAt pick os.length) ln0)).1.M) true line (wr) ((rOutF (RD.mk id n ways L (ak) al (aw) (gv) gx) (os.getD (pickAt pick os.length) ln0)).1.gv) ((rOutF (RD.mk id n ways L (ak) al (aw) (gv) gx) (os.getD (pickAt pick os.length) ln0)).1.gx)), ((rOutF (RD.mk id n ways L (ak) al (aw) (gv) gx) (os.getD (pickAt pick os.length) ln0)).2.1) ++ ([(mkM 1 id 4 line)]), 0) := by unfold rAskF; rw [if_neg (show ¬ rBusy (RD.mk id n ways L ak al aw gv gx) line = true by rw [hb]; decide), if_neg (show ¬ rThere (RD.mk id n ways L ak al aw gv gx) line wr = true by rw [ht]; decide), if_pos hfl, hvv, if_pos (by simpa using hc199)]; simp only [askM, hc210, if_true, Bool.false_eq_true, if_false]; try rfl
        replace V191 := (((((((((V191.only hO198 (Apart.ne1 ap_A187_b177)).only hO203 (Apart.ne1 ap_A187_b1)).only hO205 (Apart.ne1 ap_A187_b1)).only hO207 (Apart.ne1 ap_A187_b1)).only hO209 (Apart.ne1 ap_A187_b1)).new hN229).new hN231).new hN234).only hO241 (fun g h1 h2 => ap2_A187_B189 g h1 h2)).only hO244 (Apart.ne1 ap_A187_b6)
        replace hF := (hF.locA hO241 gA_B189).loc hO244 (.inr g_b6)
        replace O240 := O240.only hO244 (Apart.ne1 ap_A237_b6)
        exact ⟨_, rfl, refR_mk (r' := (RD.mk id n ways ((rOutF (RD.mk id n ways L (ak) al (aw) (gv) gx) (os.getD (pickAt pick os.length) ln0)).1.M) true line (wr) ((rOutF (RD.mk id n ways L (ak) al (aw) (gv) gx) (os.getD (pickAt pick os.length) ln0)).1.gv) ((rOutF (RD.mk id n ways L (ak) al (aw) (gv) gx) (os.getD (pickAt pick os.length) ln0)).1.gx))) (A' := A187) (cap' := cap188) (B := A237) (cB := cap238) (l := ((rOutF (RD.mk id n ways L (ak) al (aw) (gv) gx) (os.getD (pickAt pick os.length) ln0)).2.1) ++ ([(mkM 1 id 4 line)])) hq V191 (O240).view mA_A187 (fun g hg => (gA_A237 g hg).resolve_left (fun h => h)) hF⟩
    ·have hc43s := hc43
     try simp at hc43s
     refine Zsk ?_
     refine Znx ?_
     refine Zsr ?_
     refine Zm ?_
     refine Zm ?_
     refine Zf fo42_4 ?_
     refine Zs1 (cs' := rcE.arr (RC.mk id ((n : Nat) : Int) ways A L.length cap true al (aw) (gv) gx)) sz4 B4 (by rw [rcE.size]; decide) (rc_set4 _ _) fun w245 hO246 hBq => ?_
     replace B4 := hBq
     clear hBq
     refine Zf fo42_5 ?_
     refine Zs1 (cs' := rcE.arr (RC.mk id ((n : Nat) : Int) ways A L.length cap true line (aw) (gv) gx)) sz32 B4 (by rw [rcE.size]; decide) (rc_set5 _ _) fun w247 hO248 hBq => ?_
     replace B4 := hBq
     clear hBq
     refine Zf fo42_6 ?_
     refine Zs1 (cs' := rcE.arr (RC.mk id ((n : Nat) : Int) ways A L.length cap true line (wr) (gv) gx)) sz4 B4 (by rw [rcE.size]; decide) (rc_set6 _ _) fun w249 hO250 hBq => ?_
     replace B4 := hBq
     clear hBq
     refine Znn ?_
     refine Zsr ?_
     refine Za ?_
     refine Znn ?_
     refine Zsq ?_
     refine Zsr ?_
     refine Zm ?_
     refine Znn ?_
     refine Zcd (fun hc251 => ?_) (fun hc251 => ?_)
     ·refine Zrg ?_
      refine Za ?_
      refine Znn ?_
      refine Zsq ?_
      refine ZhT (n := 9) 9 (fun w => Blk w b1 42 (rcE.arr (RC.mk id ((n : Nat) : Int) ways A L.length cap true line (wr) (gv) gx)) ∧ True) ?_
      intro w252 hN253
      replace B4 := B4.new hN253
      have hS9 := And.intro B4 trivial
      refine ZhE 0 rcE ag42 hS9 (fun _ ⟨B4, _⟩ => (B4.rangeE rcE)) ?_
      refine Zhm 1 hS9 ?_
      refine ZhE 2 rcE ag42 hS9 (fun _ ⟨B4, _⟩ => (B4.rangeE rcE)) ?_
      refine Zhm 3 hS9 ?_
      refine Zhm 4 hS9 ?_
      refine Zh1 5 ?_
      refine Zk (args := #[.agg (rcE.arr (RC.mk id ((n : Nat) : Int) ways A L.length cap true line (wr) (gv) gx)), .int .i64 2, .int .u32 line]) cf64 (rcmsg_c 2 line (by omega) _) ?_
      rintro v w254 ⟨rfl, hN255⟩
      replace B4 := B4.new hN255
      refine Zhb ⟨B4, trivial⟩ ?_
      refine Zh1 6 ?_
      intro a fr
      refine fx_build1 (E := msgE) (p := (mkM 2 id 4 line)) elMsg (by decide) fr rfl rfl (by decide) rfl (fr.ev rfl) ?_
      clear fr a
      intro A256 w257 hN258 O259 hA260
      replace B4 := B4.new hN258
      refine Zhb ⟨B4, trivial⟩ ?_
      refine Zh1 7 ?_
      intro a fr
      refine fx_append (E := msgE) (l := []) (l' := [(mkM 2 id 4 line)]) elMsg fr rfl rfl (by decide) rfl (fr.ev rfl) (fr.ev rfl) (by first | rfl | (simp; done) | (simp; omega)) (by first | rfl | (simp; done) | (simp; omega)) Own.nil O259.view (by first | omega | (simp only [List.length_append, List.length_cons, List.length_nil, List.nil_append]; omega) | (simp only [List.length_append, List.length_cons, List.length_nil, maxLen]; omega)) (by first | (unfold maxLen; done) | (unfold maxLen; first | omega | (simp only [List.length_append, List.length_cons, List.length_nil]; omega) | (simp; done) | (simp; omega))) ?_
      clear fr a
      intro A261 cap262 w263 O264 hO265 mv266
      replace B9 := (((((B9.only hO246 ne_b1_b6.symm).only hO248 ne_b1_b6.symm).only hO250 ne_b1_b6.symm).new hN253).new hN255).new hN258
      have ap_A261_b6 : Apart A261 b6 := moved_apart mv266 (apart_none b6) B9.lt
      replace hF := (((((hF.loc hO246 (.inr g_b1)).loc hO248 (.inr g_b1)).loc hO250 (.inr g_b1)).trNew hN253).trNew hN255).trNew hN258
      have gA_A261 := gA_moved hF mv266 gA_none
      replace hO265 := only_none hO265
      replace B4 := B4.new hO265
      refine Zhb ⟨B4, trivial⟩ ?_
      refine Zh1 8 ?_
      replace B9 := B9.new hO265
      refine ZsS sz42 (rcE.all _) B9 (rcE.size _) (rcE.size _) fun w267 hO268 hBq => ?_
      replace B9 := hBq
      clear hBq
      replace B4 := B4.only hO268 ne_b1_b6
      refine Zhb ⟨B4, trivial⟩ ?_
      refine Zhn ?_
      refine Ztl ?_
      refine Za ?_
      refine Za ?_
      refine Znn ?_
      refine Zrt ?_
      refine Zre rfl [_, _, _] ⟨⟨_, rfl, loadV_E (E := rcE) ag42 rfl (B9.rangeE rcE)⟩, rfl, rfl, trivial⟩ ?_
      have hb : rBusy (RD.mk id n ways L ak al aw gv gx) line = false := hc13
      have ht : rThere (RD.mk id n ways L ak al aw gv gx) line wr = false := hc16
      have hfl : rFull (RD.mk id n ways L ak al aw gv gx) line = false := by unfold rFull; rw [← hos]; exact hc43
      have hos9 : ofs (RD.mk id n ways L ak al aw gv gx).n (RD.mk id n ways L ak al aw gv gx).M (si (RD.mk id n ways L ak al aw gv gx).n line) = os := hos.symm
      have hq : rAskF (RD.mk id n ways L ak al aw gv gx) line hnum wr pick = ((RD.mk id n ways L true line (wr) (gv) gx), ([]) ++ ([(mkM 2 id 4 line)]), 0) := by unfold rAskF; rw [if_neg (show ¬ rBusy (RD.mk id n ways L ak al aw gv gx) line = true by rw [hb]; decide), if_neg (show ¬ rThere (RD.mk id n ways L ak al aw gv gx) line wr = true by rw [ht]; decide), if_neg (show ¬ rFull (RD.mk id n ways L ak al aw gv gx) line = true by rw [hfl]; decide)]; simp only [askM, hc251, if_true, Bool.false_eq_true, if_false]; try rfl
      replace hV := (((((((hV.only hO246 (Apart.ne1 ap_A_b1)).only hO248 (Apart.ne1 ap_A_b1)).only hO250 (Apart.ne1 ap_A_b1)).new hN253).new hN255).new hN258).new hO265).only hO268 (Apart.ne1 ap_A_b6)
      replace hF := (hF.trNew hO265).loc hO268 (.inr g_b6)
      replace O264 := O264.only hO268 (Apart.ne1 ap_A261_b6)
      exact ⟨_, rfl, refR_mk (r' := (RD.mk id n ways L true line (wr) (gv) gx)) (A' := A) (cap' := cap) (B := A261) (cB := cap262) (l := ([]) ++ ([(mkM 2 id 4 line)])) hq hV (O264).view (fun g hg => .inl hg) (fun g hg => (gA_A261 g hg).resolve_left (fun h => h)) hF⟩
     ·refine Zsk ?_
      refine Znx ?_
      refine Zsq ?_
      refine ZhT (n := 9) 9 (fun w => Blk w b1 42 (rcE.arr (RC.mk id ((n : Nat) : Int) ways A L.length cap true line (wr) (gv) gx)) ∧ True) ?_
      intro w269 hN270
      replace B4 := B4.new hN270
      have hS9 := And.intro B4 trivial
      refine ZhE 0 rcE ag42 hS9 (fun _ ⟨B4, _⟩ => (B4.rangeE rcE)) ?_
      refine Zhm 1 hS9 ?_
      refine ZhE 2 rcE ag42 hS9 (fun _ ⟨B4, _⟩ => (B4.rangeE rcE)) ?_
      refine Zhm 3 hS9 ?_
      refine Zhm 4 hS9 ?_
      refine Zh1 5 ?_
      refine Zk (args := #[.agg (rcE.arr (RC.mk id ((n : Nat) : Int) ways A L.length cap true line (wr) (gv) gx)), .int .i64 1, .int .u32 line]) cf64 (rcmsg_c 1 line (by omega) _) ?_
      rintro v w271 ⟨rfl, hN272⟩
      replace B4 := B4.new hN272
      refine Zhb ⟨B4, trivial⟩ ?_
      refine Zh1 6 ?_
      intro a fr
      refine fx_build1 (E := msgE) (p := (mkM 1 id 4 line)) elMsg (by decide) fr rfl rfl (by decide) rfl (fr.ev rfl) ?_
      clear fr a
      intro A273 w274 hN275 O276 hA277
      replace B4 := B4.new hN275
      refine Zhb ⟨B4, trivial⟩ ?_
      refine Zh1 7 ?_
      intro a fr
      refine fx_append (E := msgE) (l := []) (l' := [(mkM 1 id 4 line)]) elMsg fr rfl rfl (by decide) rfl (fr.ev rfl) (fr.ev rfl) (by first | rfl | (simp; done) | (simp; omega)) (by first | rfl | (simp; done) | (simp; omega)) Own.nil O276.view (by first | omega | (simp only [List.length_append, List.length_cons, List.length_nil, List.nil_append]; omega) | (simp only [List.length_append, List.length_cons, List.length_nil, maxLen]; omega)) (by first | (unfold maxLen; done) | (unfold maxLen; first | omega | (simp only [List.length_append, List.length_cons, List.length_nil]; omega) | (simp; done) | (simp; omega))) ?_
      clear fr a
      intro A278 cap279 w280 O281 hO282 mv283
      replace B9 := (((((B9.only hO246 ne_b1_b6.symm).only hO248 ne_b1_b6.symm).only hO250 ne_b1_b6.symm).new hN270).new hN272).new hN275
      have ap_A278_b6 : Apart A278 b6 := moved_apart mv283 (apart_none b6) B9.lt
      replace hF := (((((hF.loc hO246 (.inr g_b1)).loc hO248 (.inr g_b1)).loc hO250 (.inr g_b1)).trNew hN270).trNew hN272).trNew hN275
      have gA_A278 := gA_moved hF mv283 gA_none
      replace hO282 := only_none hO282
      replace B4 := B4.new hO282
      refine Zhb ⟨B4, trivial⟩ ?_
      refine Zh1 8 ?_
      replace B9 := B9.new hO282
      refine ZsS sz42 (rcE.all _) B9 (rcE.size _) (rcE.size _) fun w284 hO285 hBq => ?_
      replace B9 := hBq
      clear hBq
      replace B4 := B4.only hO285 ne_b1_b6
      refine Zhb ⟨B4, trivial⟩ ?_
      refine Zhn ?_
      refine Ztl ?_
      refine Za ?_
      refine Za ?_
      refine Znn ?_
      refine Zrt ?_
      refine Zre rfl [_, _, _] ⟨⟨_, rfl, loadV_E (E := rcE) ag42 rfl (B9.rangeE rcE)⟩, rfl, rfl, trivial⟩ ?_
      have hb : rBusy (RD.mk id n ways L ak al aw gv gx) line = false := hc13
      have ht : rThere (RD.mk id n ways L ak al aw gv gx) line wr = false := hc16
      have hfl : rFull (RD.mk id n ways L ak al aw gv gx) line = false := by unfold rFull; rw [← hos]; exact hc43
      have hos9 : ofs (RD.mk id n ways L ak al aw gv gx).n (RD.mk id n ways L ak al aw gv gx).M (si (RD.mk id n ways L ak al aw gv gx).n line) = os := hos.symm
      have hq : rAskF (RD.mk id n ways L ak al aw gv gx) line hnum wr pick = ((RD.mk id n ways L true line (wr) (gv) gx), ([]) ++ ([(mkM 1 id 4 line)]), 0) := by unfold rAskF; rw [if_neg (show ¬ rBusy (RD.mk id n ways L ak al aw gv gx) line = true by rw [hb]; decide), if_neg (show ¬ rThere (RD.mk id n ways L ak al aw gv gx) line wr = true by rw [ht]; decide), if_neg (show ¬ rFull (RD.mk id n ways L ak al aw gv gx) line = true by rw [hfl]; decide)]; simp only [askM, hc251, if_true, Bool.false_eq_true, if_false]; try rfl
      replace hV := (((((((hV.only hO246 (Apart.ne1 ap_A_b1)).only hO248 (Apart.ne1 ap_A_b1)).only hO250 (Apart.ne1 ap_A_b1)).new hN270).new hN272).new hN275).new hO282).only hO285 (Apart.ne1 ap_A_b6)
      replace hF := (hF.trNew hO282).loc hO285 (.inr g_b6)
      replace O281 := O281.only hO285 (Apart.ne1 ap_A278_b6)
      exact ⟨_, rfl, refR_mk (r' := (RD.mk id n ways L true line (wr) (gv) gx)) (A' := A) (cap' := cap) (B := A278) (cB := cap279) (l := ([]) ++ ([(mkM 1 id 4 line)])) hq hV (O281).view (fun g hg => .inl hg) (fun g hg => (gA_A278 g hg).resolve_left (fun h => h)) hF⟩
end Go.Proofs.Ytflnlmibkbojcaa
