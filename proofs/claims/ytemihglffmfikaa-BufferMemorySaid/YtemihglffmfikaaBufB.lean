/-
  The walks of num, width, from, until, right, and of the document's wide, Check. Printed by gen_b.py.
-/
import Derived.Test.YtemihglffmfikaaBufA
namespace Go.Proofs.Ytemihglffmfikaa
open Go.RowKit

theorem sz1 : (Try.prog.info? 1).map (·.size) = some 1 := by kernel_rfl
theorem pl1 : plainT Try.prog 1 = true := by kernel_rfl
theorem sz2 : (Try.prog.info? 2).map (·.size) = some 1 := by kernel_rfl
theorem pl2 : plainT Try.prog 2 = true := by kernel_rfl
theorem sz3 : (Try.prog.info? 3).map (·.size) = some 1 := by kernel_rfl
theorem pl3 : plainT Try.prog 3 = true := by kernel_rfl
theorem sz4 : (Try.prog.info? 4).map (·.size) = some 1 := by kernel_rfl
theorem pl4 : plainT Try.prog 4 = true := by kernel_rfl
theorem sz5 : (Try.prog.info? 5).map (·.size) = some 1 := by kernel_rfl
theorem pl5 : plainT Try.prog 5 = true := by kernel_rfl
theorem sz6 : (Try.prog.info? 6).map (·.size) = some 1 := by kernel_rfl
theorem pl6 : plainT Try.prog 6 = true := by kernel_rfl
theorem sz7 : (Try.prog.info? 7).map (·.size) = some 4 := by kernel_rfl
theorem ag7 : aggT Try.prog 7 4 = true := by kernel_rfl
theorem fo7_0 : fieldOff Try.prog 7 0 = some 0 := by kernel_rfl
theorem fo7_1 : fieldOff Try.prog 7 1 = some 1 := by kernel_rfl
theorem fo7_2 : fieldOff Try.prog 7 2 = some 2 := by kernel_rfl
theorem fo7_3 : fieldOff Try.prog 7 3 = some 3 := by kernel_rfl
theorem sz8 : (Try.prog.info? 8).map (·.size) = some 4 := by kernel_rfl
theorem ag8 : aggT Try.prog 8 4 = true := by kernel_rfl
theorem fo8_0 : fieldOff Try.prog 8 0 = some 0 := by kernel_rfl
theorem fo8_1 : fieldOff Try.prog 8 1 = some 1 := by kernel_rfl
theorem fo8_2 : fieldOff Try.prog 8 2 = some 2 := by kernel_rfl
theorem fo8_3 : fieldOff Try.prog 8 3 = some 3 := by kernel_rfl
theorem sz9 : (Try.prog.info? 9).map (·.size) = some 1 := by kernel_rfl
theorem pl9 : plainT Try.prog 9 = true := by kernel_rfl
theorem sz10 : (Try.prog.info? 10).map (·.size) = some 1 := by kernel_rfl
theorem pl10 : plainT Try.prog 10 = true := by kernel_rfl
theorem sz11 : (Try.prog.info? 11).map (·.size) = some 1 := by kernel_rfl
theorem pl11 : plainT Try.prog 11 = true := by kernel_rfl
theorem sz12 : (Try.prog.info? 12).map (·.size) = some 1 := by kernel_rfl
theorem pl12 : plainT Try.prog 12 = true := by kernel_rfl
theorem sz13 : (Try.prog.info? 13).map (·.size) = some 2 := by kernel_rfl
theorem ag13 : aggT Try.prog 13 2 = true := by kernel_rfl
theorem fo13_0 : fieldOff Try.prog 13 0 = some 0 := by kernel_rfl
theorem fo13_1 : fieldOff Try.prog 13 1 = some 1 := by kernel_rfl
theorem sz14 : (Try.prog.info? 14).map (·.size) = some 2 := by kernel_rfl
theorem ag14 : aggT Try.prog 14 2 = true := by kernel_rfl
theorem fo14_0 : fieldOff Try.prog 14 0 = some 0 := by kernel_rfl
theorem fo14_1 : fieldOff Try.prog 14 1 = some 1 := by kernel_rfl
theorem sz15 : (Try.prog.info? 15).map (·.size) = some 1 := by kernel_rfl
theorem pl15 : plainT Try.prog 15 = true := by kernel_rfl
theorem sz16 : (Try.prog.info? 16).map (·.size) = some 1 := by kernel_rfl
theorem pl16 : plainT Try.prog 16 = true := by kernel_rfl
theorem sz17 : (Try.prog.info? 17).map (·.size) = some 1 := by kernel_rfl
theorem pl17 : plainT Try.prog 17 = true := by kernel_rfl
theorem sz18 : (Try.prog.info? 18).map (·.size) = some 1 := by kernel_rfl
theorem ag18 : aggT Try.prog 18 1 = true := by kernel_rfl
theorem fo18_0 : fieldOff Try.prog 18 0 = some 0 := by kernel_rfl
theorem sz19 : (Try.prog.info? 19).map (·.size) = some 1 := by kernel_rfl
theorem ag19 : aggT Try.prog 19 1 = true := by kernel_rfl
theorem fo19_0 : fieldOff Try.prog 19 0 = some 0 := by kernel_rfl
theorem sz21 : (Try.prog.info? 21).map (·.size) = some 1 := by kernel_rfl
theorem pl21 : plainT Try.prog 21 = true := by kernel_rfl
theorem sz22 : (Try.prog.info? 22).map (·.size) = some 1 := by kernel_rfl
theorem pl22 : plainT Try.prog 22 = true := by kernel_rfl
theorem sz23 : (Try.prog.info? 23).map (·.size) = some 3 := by kernel_rfl
theorem ag23 : aggT Try.prog 23 3 = true := by kernel_rfl
theorem fo23_0 : fieldOff Try.prog 23 0 = some 0 := by kernel_rfl
theorem fo23_1 : fieldOff Try.prog 23 1 = some 1 := by kernel_rfl
theorem fo23_2 : fieldOff Try.prog 23 2 = some 2 := by kernel_rfl
theorem sz24 : (Try.prog.info? 24).map (·.size) = some 3 := by kernel_rfl
theorem ag24 : aggT Try.prog 24 3 = true := by kernel_rfl
theorem fo24_0 : fieldOff Try.prog 24 0 = some 0 := by kernel_rfl
theorem fo24_1 : fieldOff Try.prog 24 1 = some 1 := by kernel_rfl
theorem fo24_2 : fieldOff Try.prog 24 2 = some 2 := by kernel_rfl
theorem sz25 : (Try.prog.info? 25).map (·.size) = some 1 := by kernel_rfl
theorem pl25 : plainT Try.prog 25 = true := by kernel_rfl
theorem sz26 : (Try.prog.info? 26).map (·.size) = some 1 := by kernel_rfl
theorem pl26 : plainT Try.prog 26 = true := by kernel_rfl
theorem sz27 : (Try.prog.info? 27).map (·.size) = some 1 := by kernel_rfl
theorem pl27 : plainT Try.prog 27 = true := by kernel_rfl
theorem sz28 : (Try.prog.info? 28).map (·.size) = some 1 := by kernel_rfl
theorem pl28 : plainT Try.prog 28 = true := by kernel_rfl
theorem sz29 : (Try.prog.info? 29).map (·.size) = some 1 := by kernel_rfl
theorem pl29 : plainT Try.prog 29 = true := by kernel_rfl
theorem sz31 : (Try.prog.info? 31).map (·.size) = some 1 := by kernel_rfl
theorem pl31 : plainT Try.prog 31 = true := by kernel_rfl
theorem sz32 : (Try.prog.info? 32).map (·.size) = some 1 := by kernel_rfl
theorem pl32 : plainT Try.prog 32 = true := by kernel_rfl
theorem sz34 : (Try.prog.info? 34).map (·.size) = some 1 := by kernel_rfl
theorem pl34 : plainT Try.prog 34 = true := by kernel_rfl
theorem sz36 : (Try.prog.info? 36).map (·.size) = some 1 := by kernel_rfl
theorem pl36 : plainT Try.prog 36 = true := by kernel_rfl
theorem sz37 : (Try.prog.info? 37).map (·.size) = some 1 := by kernel_rfl
theorem pl37 : plainT Try.prog 37 = true := by kernel_rfl
theorem sz38 : (Try.prog.info? 38).map (·.size) = some 1 := by kernel_rfl
theorem pl38 : plainT Try.prog 38 = true := by kernel_rfl
theorem sz39 : (Try.prog.info? 39).map (·.size) = some 1 := by kernel_rfl
theorem pl39 : plainT Try.prog 39 = true := by kernel_rfl
theorem sz40 : (Try.prog.info? 40).map (·.size) = some 1 := by kernel_rfl
theorem pl40 : plainT Try.prog 40 = true := by kernel_rfl
theorem sz42 : (Try.prog.info? 42).map (·.size) = some 1 := by kernel_rfl
theorem pl42 : plainT Try.prog 42 = true := by kernel_rfl
theorem sz43 : (Try.prog.info? 43).map (·.size) = some 1 := by kernel_rfl
theorem pl43 : plainT Try.prog 43 = true := by kernel_rfl
theorem sz44 : (Try.prog.info? 44).map (·.size) = some 1 := by kernel_rfl
theorem pl44 : plainT Try.prog 44 = true := by kernel_rfl
theorem sz45 : (Try.prog.info? 45).map (·.size) = some 1 := by kernel_rfl
theorem pl45 : plainT Try.prog 45 = true := by kernel_rfl
theorem sz46 : (Try.prog.info? 46).map (·.size) = some 1 := by kernel_rfl
theorem pl46 : plainT Try.prog 46 = true := by kernel_rfl
theorem sz47 : (Try.prog.info? 47).map (·.size) = some 4 := by kernel_rfl
theorem ag47 : aggT Try.prog 47 4 = true := by kernel_rfl
theorem fo47_0 : fieldOff Try.prog 47 0 = some 0 := by kernel_rfl
theorem fo47_1 : fieldOff Try.prog 47 1 = some 1 := by kernel_rfl
theorem sz48 : (Try.prog.info? 48).map (·.size) = some 4 := by kernel_rfl
theorem ag48 : aggT Try.prog 48 4 = true := by kernel_rfl
theorem fo48_0 : fieldOff Try.prog 48 0 = some 0 := by kernel_rfl
theorem fo48_1 : fieldOff Try.prog 48 1 = some 1 := by kernel_rfl
theorem sz50 : (Try.prog.info? 50).map (·.size) = some 1 := by kernel_rfl
theorem pl50 : plainT Try.prog 50 = true := by kernel_rfl
theorem sz51 : (Try.prog.info? 51).map (·.size) = some 68 := by kernel_rfl
theorem ag51 : aggT Try.prog 51 68 = true := by kernel_rfl
theorem sz52 : (Try.prog.info? 52).map (·.size) = some 1 := by kernel_rfl
theorem pl52 : plainT Try.prog 52 = true := by kernel_rfl
theorem sz53 : (Try.prog.info? 53).map (·.size) = some 1 := by kernel_rfl
theorem pl53 : plainT Try.prog 53 = true := by kernel_rfl
theorem sz54 : (Try.prog.info? 54).map (·.size) = some 1 := by kernel_rfl
theorem pl54 : plainT Try.prog 54 = true := by kernel_rfl
theorem sz55 : (Try.prog.info? 55).map (·.size) = some 1 := by kernel_rfl
theorem pl55 : plainT Try.prog 55 = true := by kernel_rfl
theorem sz56 : (Try.prog.info? 56).map (·.size) = some 1 := by kernel_rfl
theorem pl56 : plainT Try.prog 56 = true := by kernel_rfl
theorem sz57 : (Try.prog.info? 57).map (·.size) = some 1 := by kernel_rfl
theorem pl57 : plainT Try.prog 57 = true := by kernel_rfl
theorem sz58 : (Try.prog.info? 58).map (·.size) = some 1 := by kernel_rfl
theorem pl58 : plainT Try.prog 58 = true := by kernel_rfl
theorem sz59 : (Try.prog.info? 59).map (·.size) = some 3 := by kernel_rfl
theorem ag59 : aggT Try.prog 59 3 = true := by kernel_rfl
theorem fo59_0 : fieldOff Try.prog 59 0 = some 0 := by kernel_rfl
theorem sz60 : (Try.prog.info? 60).map (·.size) = some 3 := by kernel_rfl
theorem ag60 : aggT Try.prog 60 3 = true := by kernel_rfl
theorem fo60_0 : fieldOff Try.prog 60 0 = some 0 := by kernel_rfl
theorem sz61 : (Try.prog.info? 61).map (·.size) = some 12 := by kernel_rfl
theorem ag61 : aggT Try.prog 61 12 = true := by kernel_rfl
theorem sz62 : (Try.prog.info? 62).map (·.size) = some 14 := by kernel_rfl
theorem ag62 : aggT Try.prog 62 14 = true := by kernel_rfl
theorem fo62_0 : fieldOff Try.prog 62 0 = some 0 := by kernel_rfl
theorem fo62_1 : fieldOff Try.prog 62 1 = some 12 := by kernel_rfl
theorem fo62_2 : fieldOff Try.prog 62 2 = some 13 := by kernel_rfl
theorem sz63 : (Try.prog.info? 63).map (·.size) = some 14 := by kernel_rfl
theorem ag63 : aggT Try.prog 63 14 = true := by kernel_rfl
theorem fo63_0 : fieldOff Try.prog 63 0 = some 0 := by kernel_rfl
theorem fo63_1 : fieldOff Try.prog 63 1 = some 12 := by kernel_rfl
theorem fo63_2 : fieldOff Try.prog 63 2 = some 13 := by kernel_rfl
theorem sz64 : (Try.prog.info? 64).map (·.size) = some 1 := by kernel_rfl
theorem pl64 : plainT Try.prog 64 = true := by kernel_rfl
theorem sz65 : (Try.prog.info? 65).map (·.size) = some 1 := by kernel_rfl
theorem pl65 : plainT Try.prog 65 = true := by kernel_rfl
theorem sz66 : (Try.prog.info? 66).map (·.size) = some 1 := by kernel_rfl
theorem pl66 : plainT Try.prog 66 = true := by kernel_rfl
theorem sz67 : (Try.prog.info? 67).map (·.size) = some 1 := by kernel_rfl
theorem pl67 : plainT Try.prog 67 = true := by kernel_rfl
theorem sz68 : (Try.prog.info? 68).map (·.size) = some 1 := by kernel_rfl
theorem pl68 : plainT Try.prog 68 = true := by kernel_rfl
theorem sz69 : (Try.prog.info? 69).map (·.size) = some 1 := by kernel_rfl
theorem pl69 : plainT Try.prog 69 = true := by kernel_rfl
theorem sz70 : (Try.prog.info? 70).map (·.size) = some 1 := by kernel_rfl
theorem pl70 : plainT Try.prog 70 = true := by kernel_rfl
theorem sz71 : (Try.prog.info? 71).map (·.size) = some 1 := by kernel_rfl
theorem pl71 : plainT Try.prog 71 = true := by kernel_rfl
theorem sz72 : (Try.prog.info? 72).map (·.size) = some 1 := by kernel_rfl
theorem pl72 : plainT Try.prog 72 = true := by kernel_rfl
theorem sz73 : (Try.prog.info? 73).map (·.size) = some 1 := by kernel_rfl
theorem pl73 : plainT Try.prog 73 = true := by kernel_rfl
theorem sz74 : (Try.prog.info? 74).map (·.size) = some 1 := by kernel_rfl
theorem pl74 : plainT Try.prog 74 = true := by kernel_rfl
theorem sz75 : (Try.prog.info? 75).map (·.size) = some 1 := by kernel_rfl
theorem pl75 : plainT Try.prog 75 = true := by kernel_rfl
theorem sz76 : (Try.prog.info? 76).map (·.size) = some 1 := by kernel_rfl
theorem pl76 : plainT Try.prog 76 = true := by kernel_rfl
theorem sz77 : (Try.prog.info? 77).map (·.size) = some 1 := by kernel_rfl
theorem pl77 : plainT Try.prog 77 = true := by kernel_rfl
theorem sz78 : (Try.prog.info? 78).map (·.size) = some 1 := by kernel_rfl
theorem pl78 : plainT Try.prog 78 = true := by kernel_rfl
theorem sz79 : (Try.prog.info? 79).map (·.size) = some 4 := by kernel_rfl
theorem ag79 : aggT Try.prog 79 4 = true := by kernel_rfl
theorem fo79_0 : fieldOff Try.prog 79 0 = some 0 := by kernel_rfl
theorem fo79_1 : fieldOff Try.prog 79 1 = some 1 := by kernel_rfl
theorem fo79_2 : fieldOff Try.prog 79 2 = some 2 := by kernel_rfl
theorem fo79_3 : fieldOff Try.prog 79 3 = some 3 := by kernel_rfl
theorem sz80 : (Try.prog.info? 80).map (·.size) = some 4 := by kernel_rfl
theorem ag80 : aggT Try.prog 80 4 = true := by kernel_rfl
theorem fo80_0 : fieldOff Try.prog 80 0 = some 0 := by kernel_rfl
theorem fo80_1 : fieldOff Try.prog 80 1 = some 1 := by kernel_rfl
theorem fo80_2 : fieldOff Try.prog 80 2 = some 2 := by kernel_rfl
theorem fo80_3 : fieldOff Try.prog 80 3 = some 3 := by kernel_rfl
theorem sz84 : (Try.prog.info? 84).map (·.size) = some 1 := by kernel_rfl
theorem pl84 : plainT Try.prog 84 = true := by kernel_rfl
theorem sz85 : (Try.prog.info? 85).map (·.size) = some 1 := by kernel_rfl
theorem pl85 : plainT Try.prog 85 = true := by kernel_rfl
theorem sz86 : (Try.prog.info? 86).map (·.size) = some 1 := by kernel_rfl
theorem pl86 : plainT Try.prog 86 = true := by kernel_rfl
theorem sz87 : (Try.prog.info? 87).map (·.size) = some 1 := by kernel_rfl
theorem pl87 : plainT Try.prog 87 = true := by kernel_rfl
theorem sz88 : (Try.prog.info? 88).map (·.size) = some 1 := by kernel_rfl
theorem pl88 : plainT Try.prog 88 = true := by kernel_rfl
theorem sz89 : (Try.prog.info? 89).map (·.size) = some 1 := by kernel_rfl
theorem pl89 : plainT Try.prog 89 = true := by kernel_rfl
theorem sz90 : (Try.prog.info? 90).map (·.size) = some 11 := by kernel_rfl
theorem ag90 : aggT Try.prog 90 11 = true := by kernel_rfl
theorem fo90_0 : fieldOff Try.prog 90 0 = some 0 := by kernel_rfl
theorem fo90_1 : fieldOff Try.prog 90 1 = some 1 := by kernel_rfl
theorem fo90_2 : fieldOff Try.prog 90 2 = some 2 := by kernel_rfl
theorem fo90_3 : fieldOff Try.prog 90 3 = some 3 := by kernel_rfl
theorem fo90_4 : fieldOff Try.prog 90 4 = some 4 := by kernel_rfl
theorem fo90_5 : fieldOff Try.prog 90 5 = some 5 := by kernel_rfl
theorem fo90_6 : fieldOff Try.prog 90 6 = some 6 := by kernel_rfl
theorem fo90_7 : fieldOff Try.prog 90 7 = some 7 := by kernel_rfl
theorem fo90_8 : fieldOff Try.prog 90 8 = some 8 := by kernel_rfl
theorem fo90_9 : fieldOff Try.prog 90 9 = some 9 := by kernel_rfl
theorem fo90_10 : fieldOff Try.prog 90 10 = some 10 := by kernel_rfl
theorem sz91 : (Try.prog.info? 91).map (·.size) = some 11 := by kernel_rfl
theorem ag91 : aggT Try.prog 91 11 = true := by kernel_rfl
theorem fo91_0 : fieldOff Try.prog 91 0 = some 0 := by kernel_rfl
theorem fo91_1 : fieldOff Try.prog 91 1 = some 1 := by kernel_rfl
theorem fo91_2 : fieldOff Try.prog 91 2 = some 2 := by kernel_rfl
theorem fo91_3 : fieldOff Try.prog 91 3 = some 3 := by kernel_rfl
theorem fo91_4 : fieldOff Try.prog 91 4 = some 4 := by kernel_rfl
theorem fo91_5 : fieldOff Try.prog 91 5 = some 5 := by kernel_rfl
theorem fo91_6 : fieldOff Try.prog 91 6 = some 6 := by kernel_rfl
theorem fo91_7 : fieldOff Try.prog 91 7 = some 7 := by kernel_rfl
theorem fo91_8 : fieldOff Try.prog 91 8 = some 8 := by kernel_rfl
theorem fo91_9 : fieldOff Try.prog 91 9 = some 9 := by kernel_rfl
theorem fo91_10 : fieldOff Try.prog 91 10 = some 10 := by kernel_rfl
theorem nm2 : (Try.f2.name == "runtime.NumGoroutine") = false := by kernel_rfl
theorem nm3 : (Try.f3.name == "runtime.NumGoroutine") = false := by kernel_rfl
theorem nm4 : (Try.f4.name == "runtime.NumGoroutine") = false := by kernel_rfl
theorem nm5 : (Try.f5.name == "runtime.NumGoroutine") = false := by kernel_rfl
theorem nm6 : (Try.f6.name == "runtime.NumGoroutine") = false := by kernel_rfl
theorem nm7 : (Try.f7.name == "runtime.NumGoroutine") = false := by kernel_rfl
theorem nm8 : (Try.f8.name == "runtime.NumGoroutine") = false := by kernel_rfl
theorem nm9 : (Try.f9.name == "runtime.NumGoroutine") = false := by kernel_rfl
theorem nm10 : (Try.f10.name == "runtime.NumGoroutine") = false := by kernel_rfl
theorem nm11 : (Try.f11.name == "runtime.NumGoroutine") = false := by kernel_rfl
theorem nm12 : (Try.f12.name == "runtime.NumGoroutine") = false := by kernel_rfl
theorem nm13 : (Try.f13.name == "runtime.NumGoroutine") = false := by kernel_rfl
theorem nm14 : (Try.f14.name == "runtime.NumGoroutine") = false := by kernel_rfl
theorem nm15 : (Try.f15.name == "runtime.NumGoroutine") = false := by kernel_rfl
theorem nm16 : (Try.f16.name == "runtime.NumGoroutine") = false := by kernel_rfl
theorem nm17 : (Try.f17.name == "runtime.NumGoroutine") = false := by kernel_rfl
theorem nm18 : (Try.f18.name == "runtime.NumGoroutine") = false := by kernel_rfl
theorem nm19 : (Try.f19.name == "runtime.NumGoroutine") = false := by kernel_rfl
theorem nm20 : (Try.f20.name == "runtime.NumGoroutine") = false := by kernel_rfl
theorem nm21 : (Try.f21.name == "runtime.NumGoroutine") = false := by kernel_rfl
theorem nm22 : (Try.f22.name == "runtime.NumGoroutine") = false := by kernel_rfl
theorem nm23 : (Try.f23.name == "runtime.NumGoroutine") = false := by kernel_rfl
theorem nm24 : (Try.f24.name == "runtime.NumGoroutine") = false := by kernel_rfl
theorem nm25 : (Try.f25.name == "runtime.NumGoroutine") = false := by kernel_rfl
theorem nm26 : (Try.f26.name == "runtime.NumGoroutine") = false := by kernel_rfl
theorem nm27 : (Try.f27.name == "runtime.NumGoroutine") = false := by kernel_rfl
theorem nm28 : (Try.f28.name == "runtime.NumGoroutine") = false := by kernel_rfl
theorem nm29 : (Try.f29.name == "runtime.NumGoroutine") = false := by kernel_rfl
theorem nm30 : (Try.f30.name == "runtime.NumGoroutine") = false := by kernel_rfl
theorem nm31 : (Try.f31.name == "runtime.NumGoroutine") = false := by kernel_rfl
theorem nm32 : (Try.f32.name == "runtime.NumGoroutine") = false := by kernel_rfl
theorem nm33 : (Try.f33.name == "runtime.NumGoroutine") = false := by kernel_rfl
theorem nm34 : (Try.f34.name == "runtime.NumGoroutine") = false := by kernel_rfl
theorem nm35 : (Try.f35.name == "runtime.NumGoroutine") = false := by kernel_rfl
theorem nm36 : (Try.f36.name == "runtime.NumGoroutine") = false := by kernel_rfl
theorem nm37 : (Try.f37.name == "runtime.NumGoroutine") = false := by kernel_rfl
set_option maxRecDepth 100000 in
set_option maxHeartbeats 4000000 in
theorem num_c (n : Int) (w : World) : Calls Try.prog 14 #[.int .i64 n] w (Ret fun v w' => v = .int .i64 n ∧ w' = w) := by
  refine fx_enter Try.func14 rfl (N := (4, [])) (T := [(0, .int .i64 n)]) rfl (show 1 ≤ 4 by decide) ⟨rfl, trivial⟩ fun a fr => ?_
  refine wp_seq ?_
  refine wp_region_lit ?_  -- region 0
  refine fx_val (v := .int .i64 0) fr rfl rfl (by first | decide | simp) (x_assign rfl rfl) ?_
  clear fr a; intro a fr
  refine wpList_nil ?_
  refine fx_next ?_
  refine wp_seq ?_
  refine wp_region_lit ?_  -- region 1
  refine fx_val (v := .int .i64 n) fr rfl rfl (by first | decide | simp) (x_move rfl (fr.ev rfl)) ?_
  clear fr a; intro a fr
  refine fx_val (v := .int .i64 n) fr rfl rfl (by first | decide | simp) (x_assign rfl (fr.ev rfl)) ?_
  clear fr a; intro a fr
  refine wpList_nil ?_
  refine fx_next ?_
  refine wp_ret ?_
  refine fx_ret fr [.tmp 2] [.int .i64 n] rfl ⟨rfl, trivial⟩ rfl ?_
  exact ⟨_, rfl, rfl, rfl⟩
set_option maxRecDepth 100000 in
set_option maxHeartbeats 4000000 in
theorem width_c (n : Int) (w : World) : Calls Try.prog 27 #[.int .i64 n] w (Ret fun v w' => v = .bool (wOk n) ∧ w' = w) := by
  refine fx_enter Try.func27 rfl (N := (13, [])) (T := [(0, .int .i64 n)]) rfl (show 1 ≤ 13 by decide) ⟨rfl, trivial⟩ fun a fr => ?_
  refine wp_seq ?_
  refine wp_region_lit ?_  -- region 0
  refine fx_val (v := .bool false) fr rfl rfl (by first | decide | simp) (x_assign rfl rfl) ?_
  clear fr a; intro a fr
  refine wpList_nil ?_
  refine fx_next ?_
  refine wp_seq ?_
  refine wp_region_lit ?_  -- region 1
  refine fx_val (v := .int .i64 n) fr rfl rfl (by first | decide | simp) (x_move rfl (fr.ev rfl)) ?_
  clear fr a; intro a fr
  refine fx_val (v := .bool (decide (n = 1))) fr rfl rfl (by first | decide | simp) (x_eql rfl (fr.ev rfl) rfl rfl) ?_
  clear fr a; intro a fr
  refine fx_val (v := .bool (decide (n = 1))) fr rfl rfl (by first | decide | simp) (x_move rfl (fr.ev rfl)) ?_
  clear fr a; intro a fr
  refine fx_may (g := !(decide (n = 1))) (v := .int .i64 n) fr rfl rfl rfl (by simp) rfl (by first | decide | simp) (fun hg => x_move rfl (fr.ev rfl)) ?_
  clear fr a; intro a fr
  refine fx_may (g := !(decide (n = 1))) (v := .bool (decide (n = 2))) fr rfl rfl rfl (by simp) rfl (by first | decide | simp) (fun hg => x_eql rfl ((fr.ev rfl).trans (onlyIf_t hg)) rfl rfl) ?_
  clear fr a; intro a fr
  refine fx_val (v := .bool ((decide (n = 1)) || (decide (n = 2)))) fr rfl rfl (by first | decide | simp) (x_pick_or rfl (fr.ev rfl) (fun _ => rfl) (fun hb => ((fr.ev rfl)).trans (onlyIf_t (by simp_all))) rfl) ?_
  clear fr a; intro a fr
  refine fx_val (v := .bool ((decide (n = 1)) || (decide (n = 2)))) fr rfl rfl (by first | decide | simp) (x_move rfl (fr.ev rfl)) ?_
  clear fr a; intro a fr
  refine fx_may (g := !((decide (n = 1)) || (decide (n = 2)))) (v := .int .i64 n) fr rfl rfl rfl (by simp) rfl (by first | decide | simp) (fun hg => x_move rfl (fr.ev rfl)) ?_
  clear fr a; intro a fr
  refine fx_may (g := !((decide (n = 1)) || (decide (n = 2)))) (v := .bool (decide (n = 4))) fr rfl rfl rfl (by simp) rfl (by first | decide | simp) (fun hg => x_eql rfl ((fr.ev rfl).trans (onlyIf_t hg)) rfl rfl) ?_
  clear fr a; intro a fr
  refine fx_val (v := .bool (((decide (n = 1)) || (decide (n = 2))) || (decide (n = 4)))) fr rfl rfl (by first | decide | simp) (x_pick_or rfl (fr.ev rfl) (fun _ => rfl) (fun hb => ((fr.ev rfl)).trans (onlyIf_t (by simp_all))) rfl) ?_
  clear fr a; intro a fr
  refine fx_val (v := .bool (((decide (n = 1)) || (decide (n = 2))) || (decide (n = 4)))) fr rfl rfl (by first | decide | simp) (x_assign rfl (fr.ev rfl)) ?_
  clear fr a; intro a fr
  refine wpList_nil ?_
  refine fx_next ?_
  refine wp_ret ?_
  refine fx_ret fr [.tmp 2] [.bool (((decide (n = 1)) || (decide (n = 2))) || (decide (n = 4)))] rfl ⟨rfl, trivial⟩ rfl ?_
  exact ⟨_, rfl, rfl, rfl⟩
set_option maxRecDepth 100000 in
set_option maxHeartbeats 4000000 in
theorem rwide_c (n : Int) (w : World) : Calls Try.prog 32 #[.int .i64 n] w (Ret fun v w' => v = .bool (wOk n) ∧ w' = w) := by
  refine fx_enter Try.func32 rfl (N := (13, [])) (T := [(0, .int .i64 n)]) rfl (show 1 ≤ 13 by decide) ⟨rfl, trivial⟩ fun a fr => ?_
  refine wp_seq ?_
  refine wp_region_lit ?_  -- region 0
  refine fx_val (v := .bool false) fr rfl rfl (by first | decide | simp) (x_assign rfl rfl) ?_
  clear fr a; intro a fr
  refine wpList_nil ?_
  refine fx_next ?_
  refine wp_seq ?_
  refine wp_region_lit ?_  -- region 1
  refine fx_val (v := .int .i64 n) fr rfl rfl (by first | decide | simp) (x_move rfl (fr.ev rfl)) ?_
  clear fr a; intro a fr
  refine fx_val (v := .bool (decide (n = 1))) fr rfl rfl (by first | decide | simp) (x_eql rfl (fr.ev rfl) rfl rfl) ?_
  clear fr a; intro a fr
  refine fx_val (v := .bool (decide (n = 1))) fr rfl rfl (by first | decide | simp) (x_move rfl (fr.ev rfl)) ?_
  clear fr a; intro a fr
  refine fx_may (g := !(decide (n = 1))) (v := .int .i64 n) fr rfl rfl rfl (by simp) rfl (by first | decide | simp) (fun hg => x_move rfl (fr.ev rfl)) ?_
  clear fr a; intro a fr
  refine fx_may (g := !(decide (n = 1))) (v := .bool (decide (n = 2))) fr rfl rfl rfl (by simp) rfl (by first | decide | simp) (fun hg => x_eql rfl ((fr.ev rfl).trans (onlyIf_t hg)) rfl rfl) ?_
  clear fr a; intro a fr
  refine fx_val (v := .bool ((decide (n = 1)) || (decide (n = 2)))) fr rfl rfl (by first | decide | simp) (x_pick_or rfl (fr.ev rfl) (fun _ => rfl) (fun hb => ((fr.ev rfl)).trans (onlyIf_t (by simp_all))) rfl) ?_
  clear fr a; intro a fr
  refine fx_val (v := .bool ((decide (n = 1)) || (decide (n = 2)))) fr rfl rfl (by first | decide | simp) (x_move rfl (fr.ev rfl)) ?_
  clear fr a; intro a fr
  refine fx_may (g := !((decide (n = 1)) || (decide (n = 2)))) (v := .int .i64 n) fr rfl rfl rfl (by simp) rfl (by first | decide | simp) (fun hg => x_move rfl (fr.ev rfl)) ?_
  clear fr a; intro a fr
  refine fx_may (g := !((decide (n = 1)) || (decide (n = 2)))) (v := .bool (decide (n = 4))) fr rfl rfl rfl (by simp) rfl (by first | decide | simp) (fun hg => x_eql rfl ((fr.ev rfl).trans (onlyIf_t hg)) rfl rfl) ?_
  clear fr a; intro a fr
  refine fx_val (v := .bool (((decide (n = 1)) || (decide (n = 2))) || (decide (n = 4)))) fr rfl rfl (by first | decide | simp) (x_pick_or rfl (fr.ev rfl) (fun _ => rfl) (fun hb => ((fr.ev rfl)).trans (onlyIf_t (by simp_all))) rfl) ?_
  clear fr a; intro a fr
  refine fx_val (v := .bool (((decide (n = 1)) || (decide (n = 2))) || (decide (n = 4)))) fr rfl rfl (by first | decide | simp) (x_assign rfl (fr.ev rfl)) ?_
  clear fr a; intro a fr
  refine wpList_nil ?_
  refine fx_next ?_
  refine wp_ret ?_
  refine fx_ret fr [.tmp 2] [.bool (((decide (n = 1)) || (decide (n = 2))) || (decide (n = 4)))] rfl ⟨rfl, trivial⟩ rfl ?_
  exact ⟨_, rfl, rfl, rfl⟩
set_option maxRecDepth 100000 in
set_option maxHeartbeats 4000000 in
theorem from_c (s : St) (w : World) : Calls Try.prog 30 #[.agg (wE.arr s)] w (Ret fun v w' => v = .int .u64 s.addr ∧ New w w') := by
  have hsa := s.ha
  have hF := Only.refl (fun _ => False) w
  refine fx_enter Try.func30 rfl (N := (7, [])) (T := [(0, .agg (wE.arr s))]) rfl (show 1 ≤ 7 by decide) ⟨rfl, trivial⟩ fun a fr => ?_
  refine wp_seq ?_
  refine wp_region_lit ?_  -- region 0
  refine fx_new fr rfl rfl (by first | decide | simp) (x_box (cs := wE.arr s) rfl (fr.ev rfl) rfl) ?_
  clear fr a
  intro b1 w2 hN3 B4 hb5 a fr
  have g_b1 := Nat.le_trans hF.size hb5
  replace hF := hF.trNew hN3
  refine fx_val (v := .int .u64 0) fr rfl rfl (by first | decide | simp) (x_assign rfl rfl) ?_
  clear fr a; intro a fr
  refine wpList_nil ?_
  refine fx_next ?_
  refine wp_seq ?_
  refine wp_region_lit ?_  -- region 1
  refine fx_val (v := .pointer (some ⟨b1, 0, none⟩)) fr rfl rfl (by first | decide | simp) (x_fieldAddr fo60_0 rfl (fr.ev rfl) rfl) ?_
  clear fr a; intro a fr
  refine fx_val (v := .pointer (some ⟨b1, 0, none⟩)) fr rfl rfl (by first | decide | simp) (x_fieldAddr fo24_0 rfl (fr.ev rfl) rfl) ?_
  clear fr a; intro a fr
  refine fx_val (v := .int .u32 s.addr) fr rfl rfl (by first | decide | simp) (x_load1 pl22 rfl (fr.ev rfl) (B4.cell 0 rfl)) ?_
  clear fr a; intro a fr
  refine fx_val (v := .int .u64 s.addr) fr rfl rfl (by first | decide | simp) (x_convert Try.underlying22 Try.underlying71 rfl (fr.ev rfl) (u64w (r := s.addr) rfl (by omega))) ?_
  clear fr a; intro a fr
  refine fx_val (v := .int .u64 s.addr) fr rfl rfl (by first | decide | simp) (x_assign rfl (fr.ev rfl)) ?_
  clear fr a; intro a fr
  refine wpList_nil ?_
  refine fx_next ?_
  refine wp_ret ?_
  refine fx_ret fr [.tmp 2] [.int .u64 s.addr] rfl ⟨rfl, trivial⟩ rfl ?_
  exact ⟨_, rfl, rfl, hF⟩
set_option maxRecDepth 100000 in
set_option maxHeartbeats 4000000 in
theorem until_c (s : St) (w : World) (hw : 1 ≤ s.width ∧ s.width ≤ 4) : Calls Try.prog 29 #[.agg (wE.arr s)] w (Ret fun v w' => v = .int .u64 (s.addr + s.width) ∧ New w w') := by
  have hsa := s.ha
  have hF := Only.refl (fun _ => False) w
  refine fx_enter Try.func29 rfl (N := (12, [])) (T := [(0, .agg (wE.arr s))]) rfl (show 1 ≤ 12 by decide) ⟨rfl, trivial⟩ fun a fr => ?_
  refine wp_seq ?_
  refine wp_region_lit ?_  -- region 0
  refine fx_new fr rfl rfl (by first | decide | simp) (x_box (cs := wE.arr s) rfl (fr.ev rfl) rfl) ?_
  clear fr a
  intro b1 w2 hN3 B4 hb5 a fr
  have g_b1 := Nat.le_trans hF.size hb5
  replace hF := hF.trNew hN3
  refine fx_val (v := .int .u64 0) fr rfl rfl (by first | decide | simp) (x_assign rfl rfl) ?_
  clear fr a; intro a fr
  refine wpList_nil ?_
  refine fx_next ?_
  refine wp_seq ?_
  refine wp_region_lit ?_  -- region 1
  refine fx_val (v := .pointer (some ⟨b1, 0, none⟩)) fr rfl rfl (by first | decide | simp) (x_fieldAddr fo60_0 rfl (fr.ev rfl) rfl) ?_
  clear fr a; intro a fr
  refine fx_val (v := .pointer (some ⟨b1, 0, none⟩)) fr rfl rfl (by first | decide | simp) (x_fieldAddr fo24_0 rfl (fr.ev rfl) rfl) ?_
  clear fr a; intro a fr
  refine fx_val (v := .int .u32 s.addr) fr rfl rfl (by first | decide | simp) (x_load1 pl22 rfl (fr.ev rfl) (B4.cell 0 rfl)) ?_
  clear fr a; intro a fr
  refine fx_val (v := .int .u64 s.addr) fr rfl rfl (by first | decide | simp) (x_convert Try.underlying22 Try.underlying71 rfl (fr.ev rfl) (u64w (r := s.addr) rfl (by omega))) ?_
  clear fr a; intro a fr
  refine fx_val (v := .pointer (some ⟨b1, 0, none⟩)) fr rfl rfl (by first | decide | simp) (x_fieldAddr fo60_0 rfl (fr.ev rfl) rfl) ?_
  clear fr a; intro a fr
  refine fx_val (v := .pointer (some ⟨b1, 1, none⟩)) fr rfl rfl (by first | decide | simp) (x_fieldAddr fo24_1 rfl (fr.ev rfl) rfl) ?_
  clear fr a; intro a fr
  refine fx_val (v := .int .i64 s.width) fr rfl rfl (by first | decide | simp) (x_load1 pl3 rfl (fr.ev rfl) (B4.cell 1 rfl)) ?_
  clear fr a; intro a fr
  refine fx_val (v := .int .u64 s.width) fr rfl rfl (by first | decide | simp) (x_convert Try.underlying3 Try.underlying71 rfl (fr.ev rfl) (u64w (r := s.width) rfl (by omega))) ?_
  clear fr a; intro a fr
  refine fx_val (v := .int .u64 (s.addr + s.width)) fr rfl rfl (by first | decide | simp) (x_add rfl (fr.ev rfl) (fr.ev rfl) (u64w (r := s.addr + s.width) rfl (by omega))) ?_
  clear fr a; intro a fr
  refine fx_val (v := .int .u64 (s.addr + s.width)) fr rfl rfl (by first | decide | simp) (x_assign rfl (fr.ev rfl)) ?_
  clear fr a; intro a fr
  refine wpList_nil ?_
  refine fx_next ?_
  refine wp_ret ?_
  refine fx_ret fr [.tmp 2] [.int .u64 (s.addr + s.width)] rfl ⟨rfl, trivial⟩ rfl ?_
  exact ⟨_, rfl, rfl, hF⟩
set_option maxRecDepth 100000 in
set_option maxHeartbeats 4000000 in
theorem right_c (s : St) (w : World) : Calls Try.prog 25 #[.agg (wE.arr s)] w (Ret fun v w' => v = .int .i64 (chkS s) ∧ New w w') := by
  have hsa := s.ha
  have hF := Only.refl (fun _ => False) w
  refine fx_enter Try.func25 rfl (N := (36, [])) (T := [(0, .agg (wE.arr s))]) rfl (show 1 ≤ 36 by decide) ⟨rfl, trivial⟩ fun a fr => ?_
  refine wp_seq ?_
  refine wp_region_lit ?_  -- region 0
  refine fx_new fr rfl rfl (by first | decide | simp) (x_box (cs := wE.arr s) rfl (fr.ev rfl) rfl) ?_
  clear fr a
  intro b1 w2 hN3 B4 hb5 a fr
  have g_b1 := Nat.le_trans hF.size hb5
  replace hF := hF.trNew hN3
  refine fx_val (v := .int .i64 0) fr rfl rfl (by first | decide | simp) (x_assign rfl rfl) ?_
  clear fr a; intro a fr
  refine wpList_nil ?_
  refine fx_next ?_
  refine wp_seq ?_
  refine wp_block ?_
  refine wp_seq ?_
  rcases w_cases s.width with hq | hq | hq | hq
  · skip
    refine wp_region_lit ?_  -- region 1
    refine fx_val (v := .pointer (some ⟨b1, 0, none⟩)) fr rfl rfl (by first | decide | simp) (x_fieldAddr fo60_0 rfl (fr.ev rfl) rfl) ?_
    clear fr a; intro a fr
    refine fx_val (v := .pointer (some ⟨b1, 1, none⟩)) fr rfl rfl (by first | decide | simp) (x_fieldAddr fo24_1 rfl (fr.ev rfl) rfl) ?_
    clear fr a; intro a fr
    refine fx_val (v := .int .i64 s.width) fr rfl rfl (by first | decide | simp) (x_load1 pl3 rfl (fr.ev rfl) (B4.cell 1 rfl)) ?_
    clear fr a; intro a fr
    refine fx_call fr rfl rfl (by first | decide | simp) (x_call (vs := [.int .i64 s.width]) rfl rfl ⟨(fr.ev rfl), trivial⟩ Try.func27 nm27 rfl) (width_c s.width _) ?_
    clear fr a
    rintro v _ ⟨rfl, rfl⟩ a fr
    rw [show wOk s.width = true from (by first | rfl | (rw [show s.width = 1 by omega]; rfl))] at fr
    refine fx_val (v := .bool false) fr rfl rfl (by first | decide | simp) (x_not rfl (fr.ev rfl) rfl) ?_
    clear fr a; intro a fr
    refine fx_val (v := .bool false) fr rfl rfl (by first | decide | simp) (x_move rfl (fr.ev rfl)) ?_
    clear fr a; intro a fr
    refine fx_val (v := .pointer (some ⟨b1, 0, none⟩)) fr (fr.want rfl rfl rfl) rfl (by first | decide | simp) (x_fieldAddr fo60_0 rfl (fr.ev rfl) rfl) ?_
    clear fr a; intro a fr
    refine fx_val (v := .pointer (some ⟨b1, 1, none⟩)) fr (fr.want rfl rfl rfl) rfl (by first | decide | simp) (x_fieldAddr fo24_1 rfl (fr.ev rfl) rfl) ?_
    clear fr a; intro a fr
    refine fx_val (v := .int .i64 s.width) fr (fr.want rfl rfl rfl) rfl (by first | decide | simp) (x_load1 pl3 rfl (fr.ev rfl) (B4.cell 1 rfl)) ?_
    clear fr a; intro a fr
    refine fx_val (v := .bool true) fr (fr.want rfl rfl rfl) rfl (by first | decide | simp) (x_lss rfl (fr.ev rfl) rfl (decide_eq_true (by omega))) ?_
    clear fr a; intro a fr
    refine fx_val (v := .bool true) fr (fr.want rfl rfl rfl) rfl (by first | decide | simp) (x_move rfl (fr.ev rfl)) ?_
    clear fr a; intro a fr
    refine fx_val (v := .pointer (some ⟨b1, 0, none⟩)) fr (fr.want rfl rfl rfl) rfl (by first | decide | simp) (x_fieldAddr fo60_0 rfl (fr.ev rfl) rfl) ?_
    clear fr a; intro a fr
    refine fx_val (v := .pointer (some ⟨b1, 2, none⟩)) fr (fr.want rfl rfl rfl) rfl (by first | decide | simp) (x_fieldAddr fo24_2 rfl (fr.ev rfl) rfl) ?_
    clear fr a; intro a fr
    refine fx_val (v := .int .u32 s.value) fr (fr.want rfl rfl rfl) rfl (by first | decide | simp) (x_load1 pl22 rfl (fr.ev rfl) (B4.cell 2 rfl)) ?_
    clear fr a; intro a fr
    refine fx_val (v := .pointer (some ⟨b1, 0, none⟩)) fr (fr.want rfl rfl rfl) rfl (by first | decide | simp) (x_fieldAddr fo60_0 rfl (fr.ev rfl) rfl) ?_
    clear fr a; intro a fr
    refine fx_val (v := .pointer (some ⟨b1, 1, none⟩)) fr (fr.want rfl rfl rfl) rfl (by first | decide | simp) (x_fieldAddr fo24_1 rfl (fr.ev rfl) rfl) ?_
    clear fr a; intro a fr
    refine fx_val (v := .int .i64 s.width) fr (fr.want rfl rfl rfl) rfl (by first | decide | simp) (x_load1 pl3 rfl (fr.ev rfl) (B4.cell 1 rfl)) ?_
    clear fr a; intro a fr
    refine fx_val (v := .int .i64 8) fr (fr.want rfl rfl rfl) rfl (by first | decide | simp) (x_mul rfl rfl (fr.ev rfl) (i64w (r := 8) (by omega) (by omega))) ?_
    clear fr a; intro a fr
    refine fx_val (v := .int .u32 (s.value / 256)) fr (fr.want rfl rfl rfl) rfl (by first | decide | simp) (x_shr rfl (fr.ev rfl) (fr.ev rfl) (by omega) (shr_at s.value 8 (by decide))) ?_
    clear fr a; intro a fr
    refine fx_val (v := .bool (decide (s.value / 256 ≠ 0))) fr (fr.want rfl rfl rfl) rfl (by first | decide | simp) (x_neq rfl (fr.ev rfl) rfl rfl) ?_
    clear fr a; intro a fr
    refine fx_val (v := .bool (decide (s.value / 256 ≠ 0))) fr (fr.want rfl rfl rfl) rfl (by first | decide | simp) (x_pick_t rfl (fr.ev rfl) (fr.ev rfl)) ?_
    clear fr a; intro a fr
    refine fx_val (v := .bool (decide (s.value / 256 ≠ 0))) fr rfl rfl (by first | decide | simp) (x_pick_f rfl (fr.ev rfl) (fr.ev rfl)) ?_
    clear fr a; intro a fr
    refine fx_val (v := .bool (decide (s.value / 256 ≠ 0))) fr rfl rfl (by first | decide | simp) (x_assign rfl (fr.ev rfl)) ?_
    clear fr a; intro a fr
    refine wpList_nil ?_
    refine fx_next ?_
    refine fx_cond fr rfl (fun hc8 => ?_) (fun hc8 => ?_)
    · skip
      have hc8 := of_decide_eq_true hc8
      refine wp_seq ?_
      refine wp_region_lit ?_  -- region 2
      refine fx_val (v := .int .i64 2) fr rfl rfl (by first | decide | simp) (x_assign rfl rfl) ?_
      clear fr a; intro a fr
      refine wpList_nil ?_
      refine fx_next ?_
      refine wp_ret ?_
      refine fx_rb ?_
      refine fx_rt ?_
      refine fx_ret fr [.tmp 2] [.int .i64 2] rfl ⟨rfl, trivial⟩ rfl ?_
      have hsv := s.hv
      exact ⟨_, rfl, congrArg (Value.int .i64) (show 2 = chkS s from by unfold chkS okV; (try (rw [hq])); (try (have hno := wOk_no hq)); (first | (simp; done) | (simp; omega) | (split <;> (try split) <;> simp_all <;> omega) | (split <;> (try split) <;> simp_all))), hF⟩
    · skip
      have hc8 := of_decide_eq_false hc8
      refine wp_seq ?_
      refine wp_region_lit ?_  -- region 3
      refine fx_val (v := .pointer (some ⟨b1, 0, none⟩)) fr rfl rfl (by first | decide | simp) (x_fieldAddr fo60_0 rfl (fr.ev rfl) rfl) ?_
      clear fr a; intro a fr
      refine fx_val (v := .pointer (some ⟨b1, 0, none⟩)) fr rfl rfl (by first | decide | simp) (x_fieldAddr fo24_0 rfl (fr.ev rfl) rfl) ?_
      clear fr a; intro a fr
      refine fx_val (v := .int .u32 s.addr) fr rfl rfl (by first | decide | simp) (x_load1 pl22 rfl (fr.ev rfl) (B4.cell 0 rfl)) ?_
      clear fr a; intro a fr
      refine fx_val (v := .pointer (some ⟨b1, 0, none⟩)) fr rfl rfl (by first | decide | simp) (x_fieldAddr fo60_0 rfl (fr.ev rfl) rfl) ?_
      clear fr a; intro a fr
      refine fx_val (v := .pointer (some ⟨b1, 1, none⟩)) fr rfl rfl (by first | decide | simp) (x_fieldAddr fo24_1 rfl (fr.ev rfl) rfl) ?_
      clear fr a; intro a fr
      refine fx_val (v := .int .i64 s.width) fr rfl rfl (by first | decide | simp) (x_load1 pl3 rfl (fr.ev rfl) (B4.cell 1 rfl)) ?_
      clear fr a; intro a fr
      refine fx_val (v := .int .u32 1) fr rfl rfl (by first | decide | simp) (x_convert Try.underlying3 Try.underlying22 rfl (fr.ev rfl) (u32w (r := 1) (by omega) (by omega))) ?_
      clear fr a; intro a fr
      refine fx_val (v := .int .u32 (s.addr % 1)) fr rfl rfl (by first | decide | simp) (x_rem rfl (fr.ev rfl) (fr.ev rfl) (by omega) (r := s.addr % 1) (by first | exact rem_nn (by omega) | (rw [show 1 = 1 by omega]; exact rem_nn (by omega)))) ?_
      clear fr a; intro a fr
      refine fx_val (v := .bool (decide (s.addr % 1 ≠ 0))) fr rfl rfl (by first | decide | simp) (x_neq rfl (fr.ev rfl) rfl rfl) ?_
      clear fr a; intro a fr
      refine fx_val (v := .bool (decide (s.addr % 1 ≠ 0))) fr rfl rfl (by first | decide | simp) (x_assign rfl (fr.ev rfl)) ?_
      clear fr a; intro a fr
      refine wpList_nil ?_
      refine fx_next ?_
      refine fx_cond fr rfl (fun hc9 => ?_) (fun hc9 => ?_)
      · skip
        have hc9 := of_decide_eq_true hc9
        refine wp_seq ?_
        refine wp_region_lit ?_  -- region 4
        refine fx_val (v := .int .i64 120) fr rfl rfl (by first | decide | simp) (x_assign rfl rfl) ?_
        clear fr a; intro a fr
        refine wpList_nil ?_
        refine fx_next ?_
        refine wp_ret ?_
        refine fx_rb ?_
        refine fx_rt ?_
        refine fx_ret fr [.tmp 2] [.int .i64 120] rfl ⟨rfl, trivial⟩ rfl ?_
        have hsv := s.hv
        exact ⟨_, rfl, congrArg (Value.int .i64) (show 120 = chkS s from by unfold chkS okV; (try (rw [hq])); (try (have hno := wOk_no hq)); (first | (simp; done) | (simp; omega) | (split <;> (try split) <;> simp_all <;> omega) | (split <;> (try split) <;> simp_all))), hF⟩
      · skip
        have hc9 := of_decide_eq_false hc9
        refine wp_skip ?_
        refine fx_blk ?_
        refine fx_next ?_
        refine wp_seq ?_
        refine wp_region_lit ?_  -- region 5
        refine fx_val (v := .int .i64 0) fr rfl rfl (by first | decide | simp) (x_assign rfl rfl) ?_
        clear fr a; intro a fr
        refine wpList_nil ?_
        refine fx_next ?_
        refine wp_ret ?_
        refine fx_ret fr [.tmp 2] [.int .i64 0] rfl ⟨rfl, trivial⟩ rfl ?_
        have hsv := s.hv
        exact ⟨_, rfl, congrArg (Value.int .i64) (show 0 = chkS s from by unfold chkS okV; (try (rw [hq])); (try (have hno := wOk_no hq)); (first | (simp; done) | (simp; omega) | (split <;> (try split) <;> simp_all <;> omega) | (split <;> (try split) <;> simp_all))), hF⟩
  · skip
    refine wp_region_lit ?_  -- region 1
    refine fx_val (v := .pointer (some ⟨b1, 0, none⟩)) fr rfl rfl (by first | decide | simp) (x_fieldAddr fo60_0 rfl (fr.ev rfl) rfl) ?_
    clear fr a; intro a fr
    refine fx_val (v := .pointer (some ⟨b1, 1, none⟩)) fr rfl rfl (by first | decide | simp) (x_fieldAddr fo24_1 rfl (fr.ev rfl) rfl) ?_
    clear fr a; intro a fr
    refine fx_val (v := .int .i64 s.width) fr rfl rfl (by first | decide | simp) (x_load1 pl3 rfl (fr.ev rfl) (B4.cell 1 rfl)) ?_
    clear fr a; intro a fr
    refine fx_call fr rfl rfl (by first | decide | simp) (x_call (vs := [.int .i64 s.width]) rfl rfl ⟨(fr.ev rfl), trivial⟩ Try.func27 nm27 rfl) (width_c s.width _) ?_
    clear fr a
    rintro v _ ⟨rfl, rfl⟩ a fr
    rw [show wOk s.width = true from (by first | rfl | (rw [show s.width = 2 by omega]; rfl))] at fr
    refine fx_val (v := .bool false) fr rfl rfl (by first | decide | simp) (x_not rfl (fr.ev rfl) rfl) ?_
    clear fr a; intro a fr
    refine fx_val (v := .bool false) fr rfl rfl (by first | decide | simp) (x_move rfl (fr.ev rfl)) ?_
    clear fr a; intro a fr
    refine fx_val (v := .pointer (some ⟨b1, 0, none⟩)) fr (fr.want rfl rfl rfl) rfl (by first | decide | simp) (x_fieldAddr fo60_0 rfl (fr.ev rfl) rfl) ?_
    clear fr a; intro a fr
    refine fx_val (v := .pointer (some ⟨b1, 1, none⟩)) fr (fr.want rfl rfl rfl) rfl (by first | decide | simp) (x_fieldAddr fo24_1 rfl (fr.ev rfl) rfl) ?_
    clear fr a; intro a fr
    refine fx_val (v := .int .i64 s.width) fr (fr.want rfl rfl rfl) rfl (by first | decide | simp) (x_load1 pl3 rfl (fr.ev rfl) (B4.cell 1 rfl)) ?_
    clear fr a; intro a fr
    refine fx_val (v := .bool true) fr (fr.want rfl rfl rfl) rfl (by first | decide | simp) (x_lss rfl (fr.ev rfl) rfl (decide_eq_true (by omega))) ?_
    clear fr a; intro a fr
    refine fx_val (v := .bool true) fr (fr.want rfl rfl rfl) rfl (by first | decide | simp) (x_move rfl (fr.ev rfl)) ?_
    clear fr a; intro a fr
    refine fx_val (v := .pointer (some ⟨b1, 0, none⟩)) fr (fr.want rfl rfl rfl) rfl (by first | decide | simp) (x_fieldAddr fo60_0 rfl (fr.ev rfl) rfl) ?_
    clear fr a; intro a fr
    refine fx_val (v := .pointer (some ⟨b1, 2, none⟩)) fr (fr.want rfl rfl rfl) rfl (by first | decide | simp) (x_fieldAddr fo24_2 rfl (fr.ev rfl) rfl) ?_
    clear fr a; intro a fr
    refine fx_val (v := .int .u32 s.value) fr (fr.want rfl rfl rfl) rfl (by first | decide | simp) (x_load1 pl22 rfl (fr.ev rfl) (B4.cell 2 rfl)) ?_
    clear fr a; intro a fr
    refine fx_val (v := .pointer (some ⟨b1, 0, none⟩)) fr (fr.want rfl rfl rfl) rfl (by first | decide | simp) (x_fieldAddr fo60_0 rfl (fr.ev rfl) rfl) ?_
    clear fr a; intro a fr
    refine fx_val (v := .pointer (some ⟨b1, 1, none⟩)) fr (fr.want rfl rfl rfl) rfl (by first | decide | simp) (x_fieldAddr fo24_1 rfl (fr.ev rfl) rfl) ?_
    clear fr a; intro a fr
    refine fx_val (v := .int .i64 s.width) fr (fr.want rfl rfl rfl) rfl (by first | decide | simp) (x_load1 pl3 rfl (fr.ev rfl) (B4.cell 1 rfl)) ?_
    clear fr a; intro a fr
    refine fx_val (v := .int .i64 16) fr (fr.want rfl rfl rfl) rfl (by first | decide | simp) (x_mul rfl rfl (fr.ev rfl) (i64w (r := 16) (by omega) (by omega))) ?_
    clear fr a; intro a fr
    refine fx_val (v := .int .u32 (s.value / 65536)) fr (fr.want rfl rfl rfl) rfl (by first | decide | simp) (x_shr rfl (fr.ev rfl) (fr.ev rfl) (by omega) (shr_at s.value 16 (by decide))) ?_
    clear fr a; intro a fr
    refine fx_val (v := .bool (decide (s.value / 65536 ≠ 0))) fr (fr.want rfl rfl rfl) rfl (by first | decide | simp) (x_neq rfl (fr.ev rfl) rfl rfl) ?_
    clear fr a; intro a fr
    refine fx_val (v := .bool (decide (s.value / 65536 ≠ 0))) fr (fr.want rfl rfl rfl) rfl (by first | decide | simp) (x_pick_t rfl (fr.ev rfl) (fr.ev rfl)) ?_
    clear fr a; intro a fr
    refine fx_val (v := .bool (decide (s.value / 65536 ≠ 0))) fr rfl rfl (by first | decide | simp) (x_pick_f rfl (fr.ev rfl) (fr.ev rfl)) ?_
    clear fr a; intro a fr
    refine fx_val (v := .bool (decide (s.value / 65536 ≠ 0))) fr rfl rfl (by first | decide | simp) (x_assign rfl (fr.ev rfl)) ?_
    clear fr a; intro a fr
    refine wpList_nil ?_
    refine fx_next ?_
    refine fx_cond fr rfl (fun hc12 => ?_) (fun hc12 => ?_)
    · skip
      have hc12 := of_decide_eq_true hc12
      refine wp_seq ?_
      refine wp_region_lit ?_  -- region 2
      refine fx_val (v := .int .i64 2) fr rfl rfl (by first | decide | simp) (x_assign rfl rfl) ?_
      clear fr a; intro a fr
      refine wpList_nil ?_
      refine fx_next ?_
      refine wp_ret ?_
      refine fx_rb ?_
      refine fx_rt ?_
      refine fx_ret fr [.tmp 2] [.int .i64 2] rfl ⟨rfl, trivial⟩ rfl ?_
      have hsv := s.hv
      exact ⟨_, rfl, congrArg (Value.int .i64) (show 2 = chkS s from by unfold chkS okV; (try (rw [hq])); (try (have hno := wOk_no hq)); (first | (simp; done) | (simp; omega) | (split <;> (try split) <;> simp_all <;> omega) | (split <;> (try split) <;> simp_all))), hF⟩
    · skip
      have hc12 := of_decide_eq_false hc12
      refine wp_seq ?_
      refine wp_region_lit ?_  -- region 3
      refine fx_val (v := .pointer (some ⟨b1, 0, none⟩)) fr rfl rfl (by first | decide | simp) (x_fieldAddr fo60_0 rfl (fr.ev rfl) rfl) ?_
      clear fr a; intro a fr
      refine fx_val (v := .pointer (some ⟨b1, 0, none⟩)) fr rfl rfl (by first | decide | simp) (x_fieldAddr fo24_0 rfl (fr.ev rfl) rfl) ?_
      clear fr a; intro a fr
      refine fx_val (v := .int .u32 s.addr) fr rfl rfl (by first | decide | simp) (x_load1 pl22 rfl (fr.ev rfl) (B4.cell 0 rfl)) ?_
      clear fr a; intro a fr
      refine fx_val (v := .pointer (some ⟨b1, 0, none⟩)) fr rfl rfl (by first | decide | simp) (x_fieldAddr fo60_0 rfl (fr.ev rfl) rfl) ?_
      clear fr a; intro a fr
      refine fx_val (v := .pointer (some ⟨b1, 1, none⟩)) fr rfl rfl (by first | decide | simp) (x_fieldAddr fo24_1 rfl (fr.ev rfl) rfl) ?_
      clear fr a; intro a fr
      refine fx_val (v := .int .i64 s.width) fr rfl rfl (by first | decide | simp) (x_load1 pl3 rfl (fr.ev rfl) (B4.cell 1 rfl)) ?_
      clear fr a; intro a fr
      refine fx_val (v := .int .u32 2) fr rfl rfl (by first | decide | simp) (x_convert Try.underlying3 Try.underlying22 rfl (fr.ev rfl) (u32w (r := 2) (by omega) (by omega))) ?_
      clear fr a; intro a fr
      refine fx_val (v := .int .u32 (s.addr % 2)) fr rfl rfl (by first | decide | simp) (x_rem rfl (fr.ev rfl) (fr.ev rfl) (by omega) (r := s.addr % 2) (by first | exact rem_nn (by omega) | (rw [show 2 = 2 by omega]; exact rem_nn (by omega)))) ?_
      clear fr a; intro a fr
      refine fx_val (v := .bool (decide (s.addr % 2 ≠ 0))) fr rfl rfl (by first | decide | simp) (x_neq rfl (fr.ev rfl) rfl rfl) ?_
      clear fr a; intro a fr
      refine fx_val (v := .bool (decide (s.addr % 2 ≠ 0))) fr rfl rfl (by first | decide | simp) (x_assign rfl (fr.ev rfl)) ?_
      clear fr a; intro a fr
      refine wpList_nil ?_
      refine fx_next ?_
      refine fx_cond fr rfl (fun hc13 => ?_) (fun hc13 => ?_)
      · skip
        have hc13 := of_decide_eq_true hc13
        refine wp_seq ?_
        refine wp_region_lit ?_  -- region 4
        refine fx_val (v := .int .i64 120) fr rfl rfl (by first | decide | simp) (x_assign rfl rfl) ?_
        clear fr a; intro a fr
        refine wpList_nil ?_
        refine fx_next ?_
        refine wp_ret ?_
        refine fx_rb ?_
        refine fx_rt ?_
        refine fx_ret fr [.tmp 2] [.int .i64 120] rfl ⟨rfl, trivial⟩ rfl ?_
        have hsv := s.hv
        exact ⟨_, rfl, congrArg (Value.int .i64) (show 120 = chkS s from by unfold chkS okV; (try (rw [hq])); (try (have hno := wOk_no hq)); (first | (simp; done) | (simp; omega) | (split <;> (try split) <;> simp_all <;> omega) | (split <;> (try split) <;> simp_all))), hF⟩
      · skip
        have hc13 := of_decide_eq_false hc13
        refine wp_skip ?_
        refine fx_blk ?_
        refine fx_next ?_
        refine wp_seq ?_
        refine wp_region_lit ?_  -- region 5
        refine fx_val (v := .int .i64 0) fr rfl rfl (by first | decide | simp) (x_assign rfl rfl) ?_
        clear fr a; intro a fr
        refine wpList_nil ?_
        refine fx_next ?_
        refine wp_ret ?_
        refine fx_ret fr [.tmp 2] [.int .i64 0] rfl ⟨rfl, trivial⟩ rfl ?_
        have hsv := s.hv
        exact ⟨_, rfl, congrArg (Value.int .i64) (show 0 = chkS s from by unfold chkS okV; (try (rw [hq])); (try (have hno := wOk_no hq)); (first | (simp; done) | (simp; omega) | (split <;> (try split) <;> simp_all <;> omega) | (split <;> (try split) <;> simp_all))), hF⟩
  · skip
    refine wp_region_lit ?_  -- region 1
    refine fx_val (v := .pointer (some ⟨b1, 0, none⟩)) fr rfl rfl (by first | decide | simp) (x_fieldAddr fo60_0 rfl (fr.ev rfl) rfl) ?_
    clear fr a; intro a fr
    refine fx_val (v := .pointer (some ⟨b1, 1, none⟩)) fr rfl rfl (by first | decide | simp) (x_fieldAddr fo24_1 rfl (fr.ev rfl) rfl) ?_
    clear fr a; intro a fr
    refine fx_val (v := .int .i64 s.width) fr rfl rfl (by first | decide | simp) (x_load1 pl3 rfl (fr.ev rfl) (B4.cell 1 rfl)) ?_
    clear fr a; intro a fr
    refine fx_call fr rfl rfl (by first | decide | simp) (x_call (vs := [.int .i64 s.width]) rfl rfl ⟨(fr.ev rfl), trivial⟩ Try.func27 nm27 rfl) (width_c s.width _) ?_
    clear fr a
    rintro v _ ⟨rfl, rfl⟩ a fr
    rw [show wOk s.width = true from (by first | rfl | (rw [show s.width = 4 by omega]; rfl))] at fr
    refine fx_val (v := .bool false) fr rfl rfl (by first | decide | simp) (x_not rfl (fr.ev rfl) rfl) ?_
    clear fr a; intro a fr
    refine fx_val (v := .bool false) fr rfl rfl (by first | decide | simp) (x_move rfl (fr.ev rfl)) ?_
    clear fr a; intro a fr
    refine fx_val (v := .pointer (some ⟨b1, 0, none⟩)) fr (fr.want rfl rfl rfl) rfl (by first | decide | simp) (x_fieldAddr fo60_0 rfl (fr.ev rfl) rfl) ?_
    clear fr a; intro a fr
    refine fx_val (v := .pointer (some ⟨b1, 1, none⟩)) fr (fr.want rfl rfl rfl) rfl (by first | decide | simp) (x_fieldAddr fo24_1 rfl (fr.ev rfl) rfl) ?_
    clear fr a; intro a fr
    refine fx_val (v := .int .i64 s.width) fr (fr.want rfl rfl rfl) rfl (by first | decide | simp) (x_load1 pl3 rfl (fr.ev rfl) (B4.cell 1 rfl)) ?_
    clear fr a; intro a fr
    refine fx_val (v := .bool false) fr (fr.want rfl rfl rfl) rfl (by first | decide | simp) (x_lss rfl (fr.ev rfl) rfl (decide_eq_false (by omega))) ?_
    clear fr a; intro a fr
    refine fx_val (v := .bool false) fr (fr.want rfl rfl rfl) rfl (by first | decide | simp) (x_move rfl (fr.ev rfl)) ?_
    clear fr a; intro a fr
    refine fx_skip fr (fr.unwant rfl rfl rfl (by decide)) rfl (by first | decide | simp) ?_
    clear fr a; intro a fr
    refine fx_skip fr (fr.unwant rfl rfl rfl (by decide)) rfl (by first | decide | simp) ?_
    clear fr a; intro a fr
    refine fx_skip fr (fr.unwant rfl rfl rfl (by decide)) rfl (by first | decide | simp) ?_
    clear fr a; intro a fr
    refine fx_skip fr (fr.unwant rfl rfl rfl (by decide)) rfl (by first | decide | simp) ?_
    clear fr a; intro a fr
    refine fx_skip fr (fr.unwant rfl rfl rfl (by decide)) rfl (by first | decide | simp) ?_
    clear fr a; intro a fr
    refine fx_skip fr (fr.unwant rfl rfl rfl (by decide)) rfl (by first | decide | simp) ?_
    clear fr a; intro a fr
    refine fx_skip fr (fr.unwant rfl rfl rfl (by decide)) rfl (by first | decide | simp) ?_
    clear fr a; intro a fr
    refine fx_skip fr (fr.unwant rfl rfl rfl (by decide)) rfl (by first | decide | simp) ?_
    clear fr a; intro a fr
    refine fx_skip fr (fr.unwant rfl rfl rfl (by decide)) rfl (by first | decide | simp) ?_
    clear fr a; intro a fr
    refine fx_val (v := .bool false) fr (fr.want rfl rfl rfl) rfl (by first | decide | simp) (x_pick_f rfl (fr.ev rfl) rfl) ?_
    clear fr a; intro a fr
    refine fx_val (v := .bool false) fr rfl rfl (by first | decide | simp) (x_pick_f rfl (fr.ev rfl) (fr.ev rfl)) ?_
    clear fr a; intro a fr
    refine fx_val (v := .bool false) fr rfl rfl (by first | decide | simp) (x_assign rfl (fr.ev rfl)) ?_
    clear fr a; intro a fr
    refine wpList_nil ?_
    refine fx_next ?_
    refine fx_cond_f fr rfl ?_
    refine wp_seq ?_
    refine wp_region_lit ?_  -- region 3
    refine fx_val (v := .pointer (some ⟨b1, 0, none⟩)) fr rfl rfl (by first | decide | simp) (x_fieldAddr fo60_0 rfl (fr.ev rfl) rfl) ?_
    clear fr a; intro a fr
    refine fx_val (v := .pointer (some ⟨b1, 0, none⟩)) fr rfl rfl (by first | decide | simp) (x_fieldAddr fo24_0 rfl (fr.ev rfl) rfl) ?_
    clear fr a; intro a fr
    refine fx_val (v := .int .u32 s.addr) fr rfl rfl (by first | decide | simp) (x_load1 pl22 rfl (fr.ev rfl) (B4.cell 0 rfl)) ?_
    clear fr a; intro a fr
    refine fx_val (v := .pointer (some ⟨b1, 0, none⟩)) fr rfl rfl (by first | decide | simp) (x_fieldAddr fo60_0 rfl (fr.ev rfl) rfl) ?_
    clear fr a; intro a fr
    refine fx_val (v := .pointer (some ⟨b1, 1, none⟩)) fr rfl rfl (by first | decide | simp) (x_fieldAddr fo24_1 rfl (fr.ev rfl) rfl) ?_
    clear fr a; intro a fr
    refine fx_val (v := .int .i64 s.width) fr rfl rfl (by first | decide | simp) (x_load1 pl3 rfl (fr.ev rfl) (B4.cell 1 rfl)) ?_
    clear fr a; intro a fr
    refine fx_val (v := .int .u32 4) fr rfl rfl (by first | decide | simp) (x_convert Try.underlying3 Try.underlying22 rfl (fr.ev rfl) (u32w (r := 4) (by omega) (by omega))) ?_
    clear fr a; intro a fr
    refine fx_val (v := .int .u32 (s.addr % 4)) fr rfl rfl (by first | decide | simp) (x_rem rfl (fr.ev rfl) (fr.ev rfl) (by omega) (r := s.addr % 4) (by first | exact rem_nn (by omega) | (rw [show 4 = 4 by omega]; exact rem_nn (by omega)))) ?_
    clear fr a; intro a fr
    refine fx_val (v := .bool (decide (s.addr % 4 ≠ 0))) fr rfl rfl (by first | decide | simp) (x_neq rfl (fr.ev rfl) rfl rfl) ?_
    clear fr a; intro a fr
    refine fx_val (v := .bool (decide (s.addr % 4 ≠ 0))) fr rfl rfl (by first | decide | simp) (x_assign rfl (fr.ev rfl)) ?_
    clear fr a; intro a fr
    refine wpList_nil ?_
    refine fx_next ?_
    refine fx_cond fr rfl (fun hc16 => ?_) (fun hc16 => ?_)
    · skip
      have hc16 := of_decide_eq_true hc16
      refine wp_seq ?_
      refine wp_region_lit ?_  -- region 4
      refine fx_val (v := .int .i64 120) fr rfl rfl (by first | decide | simp) (x_assign rfl rfl) ?_
      clear fr a; intro a fr
      refine wpList_nil ?_
      refine fx_next ?_
      refine wp_ret ?_
      refine fx_rb ?_
      refine fx_rt ?_
      refine fx_ret fr [.tmp 2] [.int .i64 120] rfl ⟨rfl, trivial⟩ rfl ?_
      have hsv := s.hv
      exact ⟨_, rfl, congrArg (Value.int .i64) (show 120 = chkS s from by unfold chkS okV; (try (rw [hq])); (try (have hno := wOk_no hq)); (first | (simp; done) | (simp; omega) | (split <;> (try split) <;> simp_all <;> omega) | (split <;> (try split) <;> simp_all))), hF⟩
    · skip
      have hc16 := of_decide_eq_false hc16
      refine wp_skip ?_
      refine fx_blk ?_
      refine fx_next ?_
      refine wp_seq ?_
      refine wp_region_lit ?_  -- region 5
      refine fx_val (v := .int .i64 0) fr rfl rfl (by first | decide | simp) (x_assign rfl rfl) ?_
      clear fr a; intro a fr
      refine wpList_nil ?_
      refine fx_next ?_
      refine wp_ret ?_
      refine fx_ret fr [.tmp 2] [.int .i64 0] rfl ⟨rfl, trivial⟩ rfl ?_
      have hsv := s.hv
      exact ⟨_, rfl, congrArg (Value.int .i64) (show 0 = chkS s from by unfold chkS okV; (try (rw [hq])); (try (have hno := wOk_no hq)); (first | (simp; done) | (simp; omega) | (split <;> (try split) <;> simp_all <;> omega) | (split <;> (try split) <;> simp_all))), hF⟩
  · skip
    refine wp_region_lit ?_  -- region 1
    refine fx_val (v := .pointer (some ⟨b1, 0, none⟩)) fr rfl rfl (by first | decide | simp) (x_fieldAddr fo60_0 rfl (fr.ev rfl) rfl) ?_
    clear fr a; intro a fr
    refine fx_val (v := .pointer (some ⟨b1, 1, none⟩)) fr rfl rfl (by first | decide | simp) (x_fieldAddr fo24_1 rfl (fr.ev rfl) rfl) ?_
    clear fr a; intro a fr
    refine fx_val (v := .int .i64 s.width) fr rfl rfl (by first | decide | simp) (x_load1 pl3 rfl (fr.ev rfl) (B4.cell 1 rfl)) ?_
    clear fr a; intro a fr
    refine fx_call fr rfl rfl (by first | decide | simp) (x_call (vs := [.int .i64 s.width]) rfl rfl ⟨(fr.ev rfl), trivial⟩ Try.func27 nm27 rfl) (width_c s.width _) ?_
    clear fr a
    rintro v _ ⟨rfl, rfl⟩ a fr
    rw [hq] at fr
    refine fx_val (v := .bool true) fr rfl rfl (by first | decide | simp) (x_not rfl (fr.ev rfl) rfl) ?_
    clear fr a; intro a fr
    refine fx_val (v := .bool true) fr rfl rfl (by first | decide | simp) (x_move rfl (fr.ev rfl)) ?_
    clear fr a; intro a fr
    refine fx_skip fr (fr.unwant rfl rfl rfl (by decide)) rfl (by first | decide | simp) ?_
    clear fr a; intro a fr
    refine fx_skip fr (fr.unwant rfl rfl rfl (by decide)) rfl (by first | decide | simp) ?_
    clear fr a; intro a fr
    refine fx_skip fr (fr.unwant rfl rfl rfl (by decide)) rfl (by first | decide | simp) ?_
    clear fr a; intro a fr
    refine fx_skip fr (fr.unwant rfl rfl rfl (by decide)) rfl (by first | decide | simp) ?_
    clear fr a; intro a fr
    refine fx_skip fr (fr.unwant rfl rfl rfl (by decide)) rfl (by first | decide | simp) ?_
    clear fr a; intro a fr
    refine fx_skip fr (fr.unwant_u rfl rfl rfl) rfl (by first | decide | simp) ?_
    clear fr a; intro a fr
    refine fx_skip fr (fr.unwant_u rfl rfl rfl) rfl (by first | decide | simp) ?_
    clear fr a; intro a fr
    refine fx_skip fr (fr.unwant_u rfl rfl rfl) rfl (by first | decide | simp) ?_
    clear fr a; intro a fr
    refine fx_skip fr (fr.unwant_u rfl rfl rfl) rfl (by first | decide | simp) ?_
    clear fr a; intro a fr
    refine fx_skip fr (fr.unwant_u rfl rfl rfl) rfl (by first | decide | simp) ?_
    clear fr a; intro a fr
    refine fx_skip fr (fr.unwant_u rfl rfl rfl) rfl (by first | decide | simp) ?_
    clear fr a; intro a fr
    refine fx_skip fr (fr.unwant_u rfl rfl rfl) rfl (by first | decide | simp) ?_
    clear fr a; intro a fr
    refine fx_skip fr (fr.unwant_u rfl rfl rfl) rfl (by first | decide | simp) ?_
    clear fr a; intro a fr
    refine fx_skip fr (fr.unwant_u rfl rfl rfl) rfl (by first | decide | simp) ?_
    clear fr a; intro a fr
    refine fx_skip fr (fr.unwant rfl rfl rfl (by decide)) rfl (by first | decide | simp) ?_
    clear fr a; intro a fr
    refine fx_val (v := .bool true) fr rfl rfl (by first | decide | simp) (x_pick_t rfl (fr.ev rfl) rfl) ?_
    clear fr a; intro a fr
    refine fx_val (v := .bool true) fr rfl rfl (by first | decide | simp) (x_assign rfl (fr.ev rfl)) ?_
    clear fr a; intro a fr
    refine wpList_nil ?_
    refine fx_next ?_
    refine fx_cond_t fr rfl ?_
    refine wp_seq ?_
    refine wp_region_lit ?_  -- region 2
    refine fx_val (v := .int .i64 2) fr rfl rfl (by first | decide | simp) (x_assign rfl rfl) ?_
    clear fr a; intro a fr
    refine wpList_nil ?_
    refine fx_next ?_
    refine wp_ret ?_
    refine fx_rb ?_
    refine fx_rt ?_
    refine fx_ret fr [.tmp 2] [.int .i64 2] rfl ⟨rfl, trivial⟩ rfl ?_
    have hsv := s.hv
    exact ⟨_, rfl, congrArg (Value.int .i64) (show 2 = chkS s from by unfold chkS okV; (try (rw [hq])); (try (have hno := wOk_no hq)); (first | (simp; done) | (simp; omega) | (split <;> (try split) <;> simp_all <;> omega) | (split <;> (try split) <;> simp_all))), hF⟩
set_option maxRecDepth 100000 in
set_option maxHeartbeats 4000000 in
theorem rcheck_c (s : St) (w : World) : Calls Try.prog 31 #[.agg (stE.arr s)] w (Ret fun v w' => v = .int .i64 (chkS s) ∧ New w w') := by
  have hsa := s.ha
  have hF := Only.refl (fun _ => False) w
  refine fx_enter Try.func31 rfl (N := (34, [])) (T := [(0, .agg (stE.arr s))]) rfl (show 1 ≤ 34 by decide) ⟨rfl, trivial⟩ fun a fr => ?_
  refine wp_seq ?_
  refine wp_region_lit ?_  -- region 0
  refine fx_new fr rfl rfl (by first | decide | simp) (x_box (cs := stE.arr s) rfl (fr.ev rfl) rfl) ?_
  clear fr a
  intro b1 w2 hN3 B4 hb5 a fr
  have g_b1 := Nat.le_trans hF.size hb5
  replace hF := hF.trNew hN3
  refine fx_val (v := .int .i64 0) fr rfl rfl (by first | decide | simp) (x_assign rfl rfl) ?_
  clear fr a; intro a fr
  refine wpList_nil ?_
  refine fx_next ?_
  refine wp_seq ?_
  refine wp_seq ?_
  rcases w_cases s.width with hq | hq | hq | hq
  · skip
    refine wp_region_lit ?_  -- region 1
    refine fx_val (v := .pointer (some ⟨b1, 1, none⟩)) fr rfl rfl (by first | decide | simp) (x_fieldAddr fo24_1 rfl (fr.ev rfl) rfl) ?_
    clear fr a; intro a fr
    refine fx_val (v := .int .i64 s.width) fr rfl rfl (by first | decide | simp) (x_load1 pl3 rfl (fr.ev rfl) (B4.cell 1 rfl)) ?_
    clear fr a; intro a fr
    refine fx_call fr rfl rfl (by first | decide | simp) (x_call (vs := [.int .i64 s.width]) rfl rfl ⟨(fr.ev rfl), trivial⟩ Try.func32 nm32 rfl) (rwide_c s.width _) ?_
    clear fr a
    rintro v _ ⟨rfl, rfl⟩ a fr
    rw [show wOk s.width = true from (by first | rfl | (rw [show s.width = 1 by omega]; rfl))] at fr
    refine fx_val (v := .bool false) fr rfl rfl (by first | decide | simp) (x_not rfl (fr.ev rfl) rfl) ?_
    clear fr a; intro a fr
    refine fx_val (v := .bool false) fr rfl rfl (by first | decide | simp) (x_move rfl (fr.ev rfl)) ?_
    clear fr a; intro a fr
    refine fx_val (v := .pointer (some ⟨b1, 1, none⟩)) fr (fr.want rfl rfl rfl) rfl (by first | decide | simp) (x_fieldAddr fo24_1 rfl (fr.ev rfl) rfl) ?_
    clear fr a; intro a fr
    refine fx_val (v := .int .i64 s.width) fr (fr.want rfl rfl rfl) rfl (by first | decide | simp) (x_load1 pl3 rfl (fr.ev rfl) (B4.cell 1 rfl)) ?_
    clear fr a; intro a fr
    refine fx_val (v := .bool true) fr (fr.want rfl rfl rfl) rfl (by first | decide | simp) (x_eql rfl (fr.ev rfl) rfl (decide_eq_true (by omega))) ?_
    clear fr a; intro a fr
    refine fx_val (v := .bool true) fr (fr.want rfl rfl rfl) rfl (by first | decide | simp) (x_move rfl (fr.ev rfl)) ?_
    clear fr a; intro a fr
    refine fx_val (v := .pointer (some ⟨b1, 2, none⟩)) fr (fr.want rfl rfl rfl) rfl (by first | decide | simp) (x_fieldAddr fo24_2 rfl (fr.ev rfl) rfl) ?_
    clear fr a; intro a fr
    refine fx_val (v := .int .u32 s.value) fr (fr.want rfl rfl rfl) rfl (by first | decide | simp) (x_load1 pl22 rfl (fr.ev rfl) (B4.cell 2 rfl)) ?_
    clear fr a; intro a fr
    refine fx_val (v := .bool (decide (255 < s.value))) fr (fr.want rfl rfl rfl) rfl (by first | decide | simp) (x_gtr rfl (fr.ev rfl) rfl rfl) ?_
    clear fr a; intro a fr
    refine fx_val (v := .bool (decide (255 < s.value))) fr (fr.want rfl rfl rfl) rfl (by first | decide | simp) (x_pick_t rfl (fr.ev rfl) (fr.ev rfl)) ?_
    clear fr a; intro a fr
    refine fx_val (v := .bool (decide (255 < s.value))) fr rfl rfl (by first | decide | simp) (x_pick_f rfl (fr.ev rfl) (fr.ev rfl)) ?_
    clear fr a; intro a fr
    refine fx_val (v := .bool (decide (255 < s.value))) fr rfl rfl (by first | decide | simp) (x_move rfl (fr.ev rfl)) ?_
    clear fr a; intro a fr
    refine fx_may (g := !(decide (255 < s.value))) (v := .pointer (some ⟨b1, 1, none⟩)) fr rfl rfl rfl (by simp) rfl (by first | decide | simp) (fun hg => x_fieldAddr fo24_1 rfl (fr.ev rfl) rfl) ?_
    clear fr a; intro a fr
    refine fx_may (g := !(decide (255 < s.value))) (v := .int .i64 s.width) fr rfl rfl rfl (by simp) rfl (by first | decide | simp) (fun hg => x_load1 pl3 rfl ((fr.ev rfl).trans (onlyIf_t hg)) (B4.cell 1 rfl)) ?_
    clear fr a; intro a fr
    refine fx_may (g := !(decide (255 < s.value))) (v := .bool false) fr rfl rfl rfl (by simp) rfl (by first | decide | simp) (fun hg => x_eql rfl ((fr.ev rfl).trans (onlyIf_t hg)) rfl (decide_eq_false (by omega))) ?_
    clear fr a; intro a fr
    refine fx_may (g := !(decide (255 < s.value))) (v := .bool false) fr rfl rfl rfl (by simp) rfl (by first | decide | simp) (fun hg => x_move rfl ((fr.ev rfl).trans (onlyIf_t hg))) ?_
    clear fr a; intro a fr
    refine fx_may2 (g := (!(decide (255 < s.value))) && false) (v := .pointer (some ⟨b1, 2, none⟩)) fr rfl rfl rfl (by simp) rfl (by first | decide | simp) (fun hg => x_fieldAddr fo24_2 rfl (fr.ev rfl) rfl) ?_
    clear fr a; intro a fr
    refine fx_may2 (g := (!(decide (255 < s.value))) && false) (v := .int .u32 s.value) fr rfl rfl rfl (by simp) rfl (by first | decide | simp) (fun hg => x_load1 pl22 rfl ((fr.ev rfl).trans (onlyIf_t hg)) (B4.cell 2 rfl)) ?_
    clear fr a; intro a fr
    refine fx_may2 (g := (!(decide (255 < s.value))) && false) (v := .bool (decide (65535 < s.value))) fr rfl rfl rfl (by simp) rfl (by first | decide | simp) (fun hg => x_gtr rfl ((fr.ev rfl).trans (onlyIf_t hg)) rfl rfl) ?_
    clear fr a; intro a fr
    refine fx_may (g := !(decide (255 < s.value))) (v := .bool false) fr rfl rfl rfl (by simp) rfl (by first | decide | simp) (fun hg => x_pick_f rfl ((fr.ev rfl).trans (onlyIf_t hg)) rfl) ?_
    clear fr a; intro a fr
    refine fx_val (v := .bool ((decide (255 < s.value)) || false)) fr rfl rfl (by first | decide | simp) (x_pick_or rfl (fr.ev rfl) (fun _ => rfl) (fun hb => ((fr.ev rfl)).trans (onlyIf_t (by simp_all))) rfl) ?_
    clear fr a; intro a fr
    refine wpList_nil ?_
    refine fx_next ?_
    refine fx_cond fr rfl (fun hc8 => ?_) (fun hc8 => ?_)
    · skip
      have hc8s := hc8
      try simp at hc8s
      refine wp_seq ?_
      refine wp_region_lit ?_  -- region 2
      refine fx_val (v := .int .i64 2) fr rfl rfl (by first | decide | simp) (x_assign rfl rfl) ?_
      clear fr a; intro a fr
      refine wpList_nil ?_
      refine fx_next ?_
      refine wp_ret ?_
      refine fx_rt ?_
      refine fx_ret fr [.tmp 2] [.int .i64 2] rfl ⟨rfl, trivial⟩ rfl ?_
      have hsv := s.hv
      exact ⟨_, rfl, congrArg (Value.int .i64) (show 2 = chkS s from by unfold chkS okV; (try (rw [hq])); (try (have hno := wOk_no hq)); (first | (simp; done) | (simp; omega) | (split <;> (try split) <;> simp_all <;> omega) | (split <;> (try split) <;> simp_all))), hF⟩
    · skip
      have hc8s := hc8
      try simp at hc8s
      refine wp_skip ?_
      refine fx_next ?_
      refine wp_seq ?_
      refine wp_seq ?_
      refine wp_region_lit ?_  -- region 3
      refine fx_val (v := .pointer (some ⟨b1, 0, none⟩)) fr rfl rfl (by first | decide | simp) (x_fieldAddr fo24_0 rfl (fr.ev rfl) rfl) ?_
      clear fr a; intro a fr
      refine fx_val (v := .int .u32 s.addr) fr rfl rfl (by first | decide | simp) (x_load1 pl22 rfl (fr.ev rfl) (B4.cell 0 rfl)) ?_
      clear fr a; intro a fr
      refine fx_val (v := .int .i64 s.addr) fr rfl rfl (by first | decide | simp) (x_convert Try.underlying22 Try.underlying2 rfl (fr.ev rfl) (i64w (r := s.addr) rfl (by omega))) ?_
      clear fr a; intro a fr
      refine fx_val (v := .pointer (some ⟨b1, 1, none⟩)) fr rfl rfl (by first | decide | simp) (x_fieldAddr fo24_1 rfl (fr.ev rfl) rfl) ?_
      clear fr a; intro a fr
      refine fx_val (v := .int .i64 s.width) fr rfl rfl (by first | decide | simp) (x_load1 pl3 rfl (fr.ev rfl) (B4.cell 1 rfl)) ?_
      clear fr a; intro a fr
      refine fx_val (v := .int .i64 (s.addr % 1)) fr rfl rfl (by first | decide | simp) (x_rem rfl (fr.ev rfl) (fr.ev rfl) (by omega) (r := s.addr % 1) (by first | exact rem_nn (by omega) | (rw [show s.width = 1 by omega]; exact rem_nn (by omega)))) ?_
      clear fr a; intro a fr
      refine fx_val (v := .bool (decide (s.addr % 1 ≠ 0))) fr rfl rfl (by first | decide | simp) (x_neq rfl (fr.ev rfl) rfl rfl) ?_
      clear fr a; intro a fr
      refine wpList_nil ?_
      refine fx_next ?_
      refine fx_cond fr rfl (fun hc9 => ?_) (fun hc9 => ?_)
      · skip
        have hc9 := of_decide_eq_true hc9
        refine wp_seq ?_
        refine wp_region_lit ?_  -- region 4
        refine fx_val (v := .int .i64 120) fr rfl rfl (by first | decide | simp) (x_assign rfl rfl) ?_
        clear fr a; intro a fr
        refine wpList_nil ?_
        refine fx_next ?_
        refine wp_ret ?_
        refine fx_rt ?_
        refine fx_ret fr [.tmp 2] [.int .i64 120] rfl ⟨rfl, trivial⟩ rfl ?_
        have hsv := s.hv
        exact ⟨_, rfl, congrArg (Value.int .i64) (show 120 = chkS s from by unfold chkS okV; (try (rw [hq])); (try (have hno := wOk_no hq)); (first | (simp; done) | (simp; omega) | (split <;> (try split) <;> simp_all <;> omega) | (split <;> (try split) <;> simp_all))), hF⟩
      · skip
        have hc9 := of_decide_eq_false hc9
        refine wp_skip ?_
        refine fx_next ?_
        refine wp_seq ?_
        refine wp_region_lit ?_  -- region 5
        refine fx_val (v := .int .i64 0) fr rfl rfl (by first | decide | simp) (x_assign rfl rfl) ?_
        clear fr a; intro a fr
        refine wpList_nil ?_
        refine fx_next ?_
        refine wp_ret ?_
        refine fx_ret fr [.tmp 2] [.int .i64 0] rfl ⟨rfl, trivial⟩ rfl ?_
        have hsv := s.hv
        exact ⟨_, rfl, congrArg (Value.int .i64) (show 0 = chkS s from by unfold chkS okV; (try (rw [hq])); (try (have hno := wOk_no hq)); (first | (simp; done) | (simp; omega) | (split <;> (try split) <;> simp_all <;> omega) | (split <;> (try split) <;> simp_all))), hF⟩
  · skip
    refine wp_region_lit ?_  -- region 1
    refine fx_val (v := .pointer (some ⟨b1, 1, none⟩)) fr rfl rfl (by first | decide | simp) (x_fieldAddr fo24_1 rfl (fr.ev rfl) rfl) ?_
    clear fr a; intro a fr
    refine fx_val (v := .int .i64 s.width) fr rfl rfl (by first | decide | simp) (x_load1 pl3 rfl (fr.ev rfl) (B4.cell 1 rfl)) ?_
    clear fr a; intro a fr
    refine fx_call fr rfl rfl (by first | decide | simp) (x_call (vs := [.int .i64 s.width]) rfl rfl ⟨(fr.ev rfl), trivial⟩ Try.func32 nm32 rfl) (rwide_c s.width _) ?_
    clear fr a
    rintro v _ ⟨rfl, rfl⟩ a fr
    rw [show wOk s.width = true from (by first | rfl | (rw [show s.width = 2 by omega]; rfl))] at fr
    refine fx_val (v := .bool false) fr rfl rfl (by first | decide | simp) (x_not rfl (fr.ev rfl) rfl) ?_
    clear fr a; intro a fr
    refine fx_val (v := .bool false) fr rfl rfl (by first | decide | simp) (x_move rfl (fr.ev rfl)) ?_
    clear fr a; intro a fr
    refine fx_val (v := .pointer (some ⟨b1, 1, none⟩)) fr (fr.want rfl rfl rfl) rfl (by first | decide | simp) (x_fieldAddr fo24_1 rfl (fr.ev rfl) rfl) ?_
    clear fr a; intro a fr
    refine fx_val (v := .int .i64 s.width) fr (fr.want rfl rfl rfl) rfl (by first | decide | simp) (x_load1 pl3 rfl (fr.ev rfl) (B4.cell 1 rfl)) ?_
    clear fr a; intro a fr
    refine fx_val (v := .bool false) fr (fr.want rfl rfl rfl) rfl (by first | decide | simp) (x_eql rfl (fr.ev rfl) rfl (decide_eq_false (by omega))) ?_
    clear fr a; intro a fr
    refine fx_val (v := .bool false) fr (fr.want rfl rfl rfl) rfl (by first | decide | simp) (x_move rfl (fr.ev rfl)) ?_
    clear fr a; intro a fr
    refine fx_skip fr (fr.unwant rfl rfl rfl (by decide)) rfl (by first | decide | simp) ?_
    clear fr a; intro a fr
    refine fx_skip fr (fr.unwant rfl rfl rfl (by decide)) rfl (by first | decide | simp) ?_
    clear fr a; intro a fr
    refine fx_skip fr (fr.unwant rfl rfl rfl (by decide)) rfl (by first | decide | simp) ?_
    clear fr a; intro a fr
    refine fx_val (v := .bool false) fr (fr.want rfl rfl rfl) rfl (by first | decide | simp) (x_pick_f rfl (fr.ev rfl) rfl) ?_
    clear fr a; intro a fr
    refine fx_val (v := .bool false) fr rfl rfl (by first | decide | simp) (x_pick_f rfl (fr.ev rfl) (fr.ev rfl)) ?_
    clear fr a; intro a fr
    refine fx_val (v := .bool false) fr rfl rfl (by first | decide | simp) (x_move rfl (fr.ev rfl)) ?_
    clear fr a; intro a fr
    refine fx_val (v := .pointer (some ⟨b1, 1, none⟩)) fr (fr.want rfl rfl rfl) rfl (by first | decide | simp) (x_fieldAddr fo24_1 rfl (fr.ev rfl) rfl) ?_
    clear fr a; intro a fr
    refine fx_val (v := .int .i64 s.width) fr (fr.want rfl rfl rfl) rfl (by first | decide | simp) (x_load1 pl3 rfl (fr.ev rfl) (B4.cell 1 rfl)) ?_
    clear fr a; intro a fr
    refine fx_val (v := .bool true) fr (fr.want rfl rfl rfl) rfl (by first | decide | simp) (x_eql rfl (fr.ev rfl) rfl (decide_eq_true (by omega))) ?_
    clear fr a; intro a fr
    refine fx_val (v := .bool true) fr (fr.want rfl rfl rfl) rfl (by first | decide | simp) (x_move rfl (fr.ev rfl)) ?_
    clear fr a; intro a fr
    refine fx_val (v := .pointer (some ⟨b1, 2, none⟩)) fr (fr.want rfl rfl rfl) rfl (by first | decide | simp) (x_fieldAddr fo24_2 rfl (fr.ev rfl) rfl) ?_
    clear fr a; intro a fr
    refine fx_val (v := .int .u32 s.value) fr (fr.want rfl rfl rfl) rfl (by first | decide | simp) (x_load1 pl22 rfl (fr.ev rfl) (B4.cell 2 rfl)) ?_
    clear fr a; intro a fr
    refine fx_val (v := .bool (decide (65535 < s.value))) fr (fr.want rfl rfl rfl) rfl (by first | decide | simp) (x_gtr rfl (fr.ev rfl) rfl rfl) ?_
    clear fr a; intro a fr
    refine fx_val (v := .bool (decide (65535 < s.value))) fr (fr.want rfl rfl rfl) rfl (by first | decide | simp) (x_pick_t rfl (fr.ev rfl) (fr.ev rfl)) ?_
    clear fr a; intro a fr
    refine fx_val (v := .bool (decide (65535 < s.value))) fr rfl rfl (by first | decide | simp) (x_pick_f rfl (fr.ev rfl) (fr.ev rfl)) ?_
    clear fr a; intro a fr
    refine wpList_nil ?_
    refine fx_next ?_
    refine fx_cond fr rfl (fun hc12 => ?_) (fun hc12 => ?_)
    · skip
      have hc12 := of_decide_eq_true hc12
      refine wp_seq ?_
      refine wp_region_lit ?_  -- region 2
      refine fx_val (v := .int .i64 2) fr rfl rfl (by first | decide | simp) (x_assign rfl rfl) ?_
      clear fr a; intro a fr
      refine wpList_nil ?_
      refine fx_next ?_
      refine wp_ret ?_
      refine fx_rt ?_
      refine fx_ret fr [.tmp 2] [.int .i64 2] rfl ⟨rfl, trivial⟩ rfl ?_
      have hsv := s.hv
      exact ⟨_, rfl, congrArg (Value.int .i64) (show 2 = chkS s from by unfold chkS okV; (try (rw [hq])); (try (have hno := wOk_no hq)); (first | (simp; done) | (simp; omega) | (split <;> (try split) <;> simp_all <;> omega) | (split <;> (try split) <;> simp_all))), hF⟩
    · skip
      have hc12 := of_decide_eq_false hc12
      refine wp_skip ?_
      refine fx_next ?_
      refine wp_seq ?_
      refine wp_seq ?_
      refine wp_region_lit ?_  -- region 3
      refine fx_val (v := .pointer (some ⟨b1, 0, none⟩)) fr rfl rfl (by first | decide | simp) (x_fieldAddr fo24_0 rfl (fr.ev rfl) rfl) ?_
      clear fr a; intro a fr
      refine fx_val (v := .int .u32 s.addr) fr rfl rfl (by first | decide | simp) (x_load1 pl22 rfl (fr.ev rfl) (B4.cell 0 rfl)) ?_
      clear fr a; intro a fr
      refine fx_val (v := .int .i64 s.addr) fr rfl rfl (by first | decide | simp) (x_convert Try.underlying22 Try.underlying2 rfl (fr.ev rfl) (i64w (r := s.addr) rfl (by omega))) ?_
      clear fr a; intro a fr
      refine fx_val (v := .pointer (some ⟨b1, 1, none⟩)) fr rfl rfl (by first | decide | simp) (x_fieldAddr fo24_1 rfl (fr.ev rfl) rfl) ?_
      clear fr a; intro a fr
      refine fx_val (v := .int .i64 s.width) fr rfl rfl (by first | decide | simp) (x_load1 pl3 rfl (fr.ev rfl) (B4.cell 1 rfl)) ?_
      clear fr a; intro a fr
      refine fx_val (v := .int .i64 (s.addr % 2)) fr rfl rfl (by first | decide | simp) (x_rem rfl (fr.ev rfl) (fr.ev rfl) (by omega) (r := s.addr % 2) (by first | exact rem_nn (by omega) | (rw [show s.width = 2 by omega]; exact rem_nn (by omega)))) ?_
      clear fr a; intro a fr
      refine fx_val (v := .bool (decide (s.addr % 2 ≠ 0))) fr rfl rfl (by first | decide | simp) (x_neq rfl (fr.ev rfl) rfl rfl) ?_
      clear fr a; intro a fr
      refine wpList_nil ?_
      refine fx_next ?_
      refine fx_cond fr rfl (fun hc13 => ?_) (fun hc13 => ?_)
      · skip
        have hc13 := of_decide_eq_true hc13
        refine wp_seq ?_
        refine wp_region_lit ?_  -- region 4
        refine fx_val (v := .int .i64 120) fr rfl rfl (by first | decide | simp) (x_assign rfl rfl) ?_
        clear fr a; intro a fr
        refine wpList_nil ?_
        refine fx_next ?_
        refine wp_ret ?_
        refine fx_rt ?_
        refine fx_ret fr [.tmp 2] [.int .i64 120] rfl ⟨rfl, trivial⟩ rfl ?_
        have hsv := s.hv
        exact ⟨_, rfl, congrArg (Value.int .i64) (show 120 = chkS s from by unfold chkS okV; (try (rw [hq])); (try (have hno := wOk_no hq)); (first | (simp; done) | (simp; omega) | (split <;> (try split) <;> simp_all <;> omega) | (split <;> (try split) <;> simp_all))), hF⟩
      · skip
        have hc13 := of_decide_eq_false hc13
        refine wp_skip ?_
        refine fx_next ?_
        refine wp_seq ?_
        refine wp_region_lit ?_  -- region 5
        refine fx_val (v := .int .i64 0) fr rfl rfl (by first | decide | simp) (x_assign rfl rfl) ?_
        clear fr a; intro a fr
        refine wpList_nil ?_
        refine fx_next ?_
        refine wp_ret ?_
        refine fx_ret fr [.tmp 2] [.int .i64 0] rfl ⟨rfl, trivial⟩ rfl ?_
        have hsv := s.hv
        exact ⟨_, rfl, congrArg (Value.int .i64) (show 0 = chkS s from by unfold chkS okV; (try (rw [hq])); (try (have hno := wOk_no hq)); (first | (simp; done) | (simp; omega) | (split <;> (try split) <;> simp_all <;> omega) | (split <;> (try split) <;> simp_all))), hF⟩
  · skip
    refine wp_region_lit ?_  -- region 1
    refine fx_val (v := .pointer (some ⟨b1, 1, none⟩)) fr rfl rfl (by first | decide | simp) (x_fieldAddr fo24_1 rfl (fr.ev rfl) rfl) ?_
    clear fr a; intro a fr
    refine fx_val (v := .int .i64 s.width) fr rfl rfl (by first | decide | simp) (x_load1 pl3 rfl (fr.ev rfl) (B4.cell 1 rfl)) ?_
    clear fr a; intro a fr
    refine fx_call fr rfl rfl (by first | decide | simp) (x_call (vs := [.int .i64 s.width]) rfl rfl ⟨(fr.ev rfl), trivial⟩ Try.func32 nm32 rfl) (rwide_c s.width _) ?_
    clear fr a
    rintro v _ ⟨rfl, rfl⟩ a fr
    rw [show wOk s.width = true from (by first | rfl | (rw [show s.width = 4 by omega]; rfl))] at fr
    refine fx_val (v := .bool false) fr rfl rfl (by first | decide | simp) (x_not rfl (fr.ev rfl) rfl) ?_
    clear fr a; intro a fr
    refine fx_val (v := .bool false) fr rfl rfl (by first | decide | simp) (x_move rfl (fr.ev rfl)) ?_
    clear fr a; intro a fr
    refine fx_val (v := .pointer (some ⟨b1, 1, none⟩)) fr (fr.want rfl rfl rfl) rfl (by first | decide | simp) (x_fieldAddr fo24_1 rfl (fr.ev rfl) rfl) ?_
    clear fr a; intro a fr
    refine fx_val (v := .int .i64 s.width) fr (fr.want rfl rfl rfl) rfl (by first | decide | simp) (x_load1 pl3 rfl (fr.ev rfl) (B4.cell 1 rfl)) ?_
    clear fr a; intro a fr
    refine fx_val (v := .bool false) fr (fr.want rfl rfl rfl) rfl (by first | decide | simp) (x_eql rfl (fr.ev rfl) rfl (decide_eq_false (by omega))) ?_
    clear fr a; intro a fr
    refine fx_val (v := .bool false) fr (fr.want rfl rfl rfl) rfl (by first | decide | simp) (x_move rfl (fr.ev rfl)) ?_
    clear fr a; intro a fr
    refine fx_skip fr (fr.unwant rfl rfl rfl (by decide)) rfl (by first | decide | simp) ?_
    clear fr a; intro a fr
    refine fx_skip fr (fr.unwant rfl rfl rfl (by decide)) rfl (by first | decide | simp) ?_
    clear fr a; intro a fr
    refine fx_skip fr (fr.unwant rfl rfl rfl (by decide)) rfl (by first | decide | simp) ?_
    clear fr a; intro a fr
    refine fx_val (v := .bool false) fr (fr.want rfl rfl rfl) rfl (by first | decide | simp) (x_pick_f rfl (fr.ev rfl) rfl) ?_
    clear fr a; intro a fr
    refine fx_val (v := .bool false) fr rfl rfl (by first | decide | simp) (x_pick_f rfl (fr.ev rfl) (fr.ev rfl)) ?_
    clear fr a; intro a fr
    refine fx_val (v := .bool false) fr rfl rfl (by first | decide | simp) (x_move rfl (fr.ev rfl)) ?_
    clear fr a; intro a fr
    refine fx_val (v := .pointer (some ⟨b1, 1, none⟩)) fr (fr.want rfl rfl rfl) rfl (by first | decide | simp) (x_fieldAddr fo24_1 rfl (fr.ev rfl) rfl) ?_
    clear fr a; intro a fr
    refine fx_val (v := .int .i64 s.width) fr (fr.want rfl rfl rfl) rfl (by first | decide | simp) (x_load1 pl3 rfl (fr.ev rfl) (B4.cell 1 rfl)) ?_
    clear fr a; intro a fr
    refine fx_val (v := .bool false) fr (fr.want rfl rfl rfl) rfl (by first | decide | simp) (x_eql rfl (fr.ev rfl) rfl (decide_eq_false (by omega))) ?_
    clear fr a; intro a fr
    refine fx_val (v := .bool false) fr (fr.want rfl rfl rfl) rfl (by first | decide | simp) (x_move rfl (fr.ev rfl)) ?_
    clear fr a; intro a fr
    refine fx_skip fr (fr.unwant rfl rfl rfl (by decide)) rfl (by first | decide | simp) ?_
    clear fr a; intro a fr
    refine fx_skip fr (fr.unwant rfl rfl rfl (by decide)) rfl (by first | decide | simp) ?_
    clear fr a; intro a fr
    refine fx_skip fr (fr.unwant rfl rfl rfl (by decide)) rfl (by first | decide | simp) ?_
    clear fr a; intro a fr
    refine fx_val (v := .bool false) fr (fr.want rfl rfl rfl) rfl (by first | decide | simp) (x_pick_f rfl (fr.ev rfl) rfl) ?_
    clear fr a; intro a fr
    refine fx_val (v := .bool false) fr rfl rfl (by first | decide | simp) (x_pick_f rfl (fr.ev rfl) (fr.ev rfl)) ?_
    clear fr a; intro a fr
    refine wpList_nil ?_
    refine fx_next ?_
    refine fx_cond_f fr rfl ?_
    refine wp_skip ?_
    refine fx_next ?_
    refine wp_seq ?_
    refine wp_seq ?_
    refine wp_region_lit ?_  -- region 3
    refine fx_val (v := .pointer (some ⟨b1, 0, none⟩)) fr rfl rfl (by first | decide | simp) (x_fieldAddr fo24_0 rfl (fr.ev rfl) rfl) ?_
    clear fr a; intro a fr
    refine fx_val (v := .int .u32 s.addr) fr rfl rfl (by first | decide | simp) (x_load1 pl22 rfl (fr.ev rfl) (B4.cell 0 rfl)) ?_
    clear fr a; intro a fr
    refine fx_val (v := .int .i64 s.addr) fr rfl rfl (by first | decide | simp) (x_convert Try.underlying22 Try.underlying2 rfl (fr.ev rfl) (i64w (r := s.addr) rfl (by omega))) ?_
    clear fr a; intro a fr
    refine fx_val (v := .pointer (some ⟨b1, 1, none⟩)) fr rfl rfl (by first | decide | simp) (x_fieldAddr fo24_1 rfl (fr.ev rfl) rfl) ?_
    clear fr a; intro a fr
    refine fx_val (v := .int .i64 s.width) fr rfl rfl (by first | decide | simp) (x_load1 pl3 rfl (fr.ev rfl) (B4.cell 1 rfl)) ?_
    clear fr a; intro a fr
    refine fx_val (v := .int .i64 (s.addr % 4)) fr rfl rfl (by first | decide | simp) (x_rem rfl (fr.ev rfl) (fr.ev rfl) (by omega) (r := s.addr % 4) (by first | exact rem_nn (by omega) | (rw [show s.width = 4 by omega]; exact rem_nn (by omega)))) ?_
    clear fr a; intro a fr
    refine fx_val (v := .bool (decide (s.addr % 4 ≠ 0))) fr rfl rfl (by first | decide | simp) (x_neq rfl (fr.ev rfl) rfl rfl) ?_
    clear fr a; intro a fr
    refine wpList_nil ?_
    refine fx_next ?_
    refine fx_cond fr rfl (fun hc16 => ?_) (fun hc16 => ?_)
    · skip
      have hc16 := of_decide_eq_true hc16
      refine wp_seq ?_
      refine wp_region_lit ?_  -- region 4
      refine fx_val (v := .int .i64 120) fr rfl rfl (by first | decide | simp) (x_assign rfl rfl) ?_
      clear fr a; intro a fr
      refine wpList_nil ?_
      refine fx_next ?_
      refine wp_ret ?_
      refine fx_rt ?_
      refine fx_ret fr [.tmp 2] [.int .i64 120] rfl ⟨rfl, trivial⟩ rfl ?_
      have hsv := s.hv
      exact ⟨_, rfl, congrArg (Value.int .i64) (show 120 = chkS s from by unfold chkS okV; (try (rw [hq])); (try (have hno := wOk_no hq)); (first | (simp; done) | (simp; omega) | (split <;> (try split) <;> simp_all <;> omega) | (split <;> (try split) <;> simp_all))), hF⟩
    · skip
      have hc16 := of_decide_eq_false hc16
      refine wp_skip ?_
      refine fx_next ?_
      refine wp_seq ?_
      refine wp_region_lit ?_  -- region 5
      refine fx_val (v := .int .i64 0) fr rfl rfl (by first | decide | simp) (x_assign rfl rfl) ?_
      clear fr a; intro a fr
      refine wpList_nil ?_
      refine fx_next ?_
      refine wp_ret ?_
      refine fx_ret fr [.tmp 2] [.int .i64 0] rfl ⟨rfl, trivial⟩ rfl ?_
      have hsv := s.hv
      exact ⟨_, rfl, congrArg (Value.int .i64) (show 0 = chkS s from by unfold chkS okV; (try (rw [hq])); (try (have hno := wOk_no hq)); (first | (simp; done) | (simp; omega) | (split <;> (try split) <;> simp_all <;> omega) | (split <;> (try split) <;> simp_all))), hF⟩
  · skip
    refine wp_region_lit ?_  -- region 1
    refine fx_val (v := .pointer (some ⟨b1, 1, none⟩)) fr rfl rfl (by first | decide | simp) (x_fieldAddr fo24_1 rfl (fr.ev rfl) rfl) ?_
    clear fr a; intro a fr
    refine fx_val (v := .int .i64 s.width) fr rfl rfl (by first | decide | simp) (x_load1 pl3 rfl (fr.ev rfl) (B4.cell 1 rfl)) ?_
    clear fr a; intro a fr
    refine fx_call fr rfl rfl (by first | decide | simp) (x_call (vs := [.int .i64 s.width]) rfl rfl ⟨(fr.ev rfl), trivial⟩ Try.func32 nm32 rfl) (rwide_c s.width _) ?_
    clear fr a
    rintro v _ ⟨rfl, rfl⟩ a fr
    rw [hq] at fr
    refine fx_val (v := .bool true) fr rfl rfl (by first | decide | simp) (x_not rfl (fr.ev rfl) rfl) ?_
    clear fr a; intro a fr
    refine fx_val (v := .bool true) fr rfl rfl (by first | decide | simp) (x_move rfl (fr.ev rfl)) ?_
    clear fr a; intro a fr
    refine fx_skip fr (fr.unwant rfl rfl rfl (by decide)) rfl (by first | decide | simp) ?_
    clear fr a; intro a fr
    refine fx_skip fr (fr.unwant rfl rfl rfl (by decide)) rfl (by first | decide | simp) ?_
    clear fr a; intro a fr
    refine fx_skip fr (fr.unwant rfl rfl rfl (by decide)) rfl (by first | decide | simp) ?_
    clear fr a; intro a fr
    refine fx_skip fr (fr.unwant rfl rfl rfl (by decide)) rfl (by first | decide | simp) ?_
    clear fr a; intro a fr
    refine fx_skip fr (fr.unwant_u rfl rfl rfl) rfl (by first | decide | simp) ?_
    clear fr a; intro a fr
    refine fx_skip fr (fr.unwant_u rfl rfl rfl) rfl (by first | decide | simp) ?_
    clear fr a; intro a fr
    refine fx_skip fr (fr.unwant_u rfl rfl rfl) rfl (by first | decide | simp) ?_
    clear fr a; intro a fr
    refine fx_skip fr (fr.unwant rfl rfl rfl (by decide)) rfl (by first | decide | simp) ?_
    clear fr a; intro a fr
    refine fx_val (v := .bool true) fr rfl rfl (by first | decide | simp) (x_pick_t rfl (fr.ev rfl) rfl) ?_
    clear fr a; intro a fr
    refine fx_val (v := .bool true) fr rfl rfl (by first | decide | simp) (x_move rfl (fr.ev rfl)) ?_
    clear fr a; intro a fr
    refine fx_skip fr (fr.unwant rfl rfl rfl (by decide)) rfl (by first | decide | simp) ?_
    clear fr a; intro a fr
    refine fx_skip fr (fr.unwant rfl rfl rfl (by decide)) rfl (by first | decide | simp) ?_
    clear fr a; intro a fr
    refine fx_skip fr (fr.unwant rfl rfl rfl (by decide)) rfl (by first | decide | simp) ?_
    clear fr a; intro a fr
    refine fx_skip fr (fr.unwant rfl rfl rfl (by decide)) rfl (by first | decide | simp) ?_
    clear fr a; intro a fr
    refine fx_skip fr (fr.unwant_u rfl rfl rfl) rfl (by first | decide | simp) ?_
    clear fr a; intro a fr
    refine fx_skip fr (fr.unwant_u rfl rfl rfl) rfl (by first | decide | simp) ?_
    clear fr a; intro a fr
    refine fx_skip fr (fr.unwant_u rfl rfl rfl) rfl (by first | decide | simp) ?_
    clear fr a; intro a fr
    refine fx_skip fr (fr.unwant rfl rfl rfl (by decide)) rfl (by first | decide | simp) ?_
    clear fr a; intro a fr
    refine fx_val (v := .bool true) fr rfl rfl (by first | decide | simp) (x_pick_t rfl (fr.ev rfl) rfl) ?_
    clear fr a; intro a fr
    refine wpList_nil ?_
    refine fx_next ?_
    refine fx_cond_t fr rfl ?_
    refine wp_seq ?_
    refine wp_region_lit ?_  -- region 2
    refine fx_val (v := .int .i64 2) fr rfl rfl (by first | decide | simp) (x_assign rfl rfl) ?_
    clear fr a; intro a fr
    refine wpList_nil ?_
    refine fx_next ?_
    refine wp_ret ?_
    refine fx_rt ?_
    refine fx_ret fr [.tmp 2] [.int .i64 2] rfl ⟨rfl, trivial⟩ rfl ?_
    have hsv := s.hv
    exact ⟨_, rfl, congrArg (Value.int .i64) (show 2 = chkS s from by unfold chkS okV; (try (rw [hq])); (try (have hno := wOk_no hq)); (first | (simp; done) | (simp; omega) | (split <;> (try split) <;> simp_all <;> omega) | (split <;> (try split) <;> simp_all))), hF⟩
end Go.Proofs.Ytemihglffmfikaa
