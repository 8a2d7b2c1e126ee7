/-
  The walks of num, cache, New, and of the reference's Check. Printed by gen_b.py.
-/
import Derived.Test.YtdpkeabmfhnfiaaNetA
namespace Go.Proofs.Ytdpkeabmfhnfiaa
open Go.RowKit

theorem sz1 : (Try.prog.info? 1).map (·.size) = some 1 := by kernel_rfl
theorem pl1 : plainT Try.prog 1 = true := by kernel_rfl
theorem sz2 : (Try.prog.info? 2).map (·.size) = some 1 := by kernel_rfl
theorem pl2 : plainT Try.prog 2 = true := by kernel_rfl
theorem sz3 : (Try.prog.info? 3).map (·.size) = some 1 := by kernel_rfl
theorem pl3 : plainT Try.prog 3 = true := by kernel_rfl
theorem sz4 : (Try.prog.info? 4).map (·.size) = some 1 := by kernel_rfl
theorem pl4 : plainT Try.prog 4 = true := by kernel_rfl
theorem sz5 : (Try.prog.info? 5).map (·.size) = some 1 := by kernel_rfl
theorem pl5 : plainT Try.prog 5 = true := by kernel_rfl
theorem sz6 : (Try.prog.info? 6).map (·.size) = some 1 := by kernel_rfl
theorem pl6 : plainT Try.prog 6 = true := by kernel_rfl
theorem sz7 : (Try.prog.info? 7).map (·.size) = some 4 := by kernel_rfl
theorem ag7 : aggT Try.prog 7 4 = true := by kernel_rfl
theorem fo7_0 : fieldOff Try.prog 7 0 = some 0 := by kernel_rfl
theorem fo7_1 : fieldOff Try.prog 7 1 = some 1 := by kernel_rfl
theorem fo7_2 : fieldOff Try.prog 7 2 = some 2 := by kernel_rfl
theorem fo7_3 : fieldOff Try.prog 7 3 = some 3 := by kernel_rfl
theorem sz8 : (Try.prog.info? 8).map (·.size) = some 4 := by kernel_rfl
theorem ag8 : aggT Try.prog 8 4 = true := by kernel_rfl
theorem fo8_0 : fieldOff Try.prog 8 0 = some 0 := by kernel_rfl
theorem fo8_1 : fieldOff Try.prog 8 1 = some 1 := by kernel_rfl
theorem fo8_2 : fieldOff Try.prog 8 2 = some 2 := by kernel_rfl
theorem fo8_3 : fieldOff Try.prog 8 3 = some 3 := by kernel_rfl
theorem sz9 : (Try.prog.info? 9).map (·.size) = some 1 := by kernel_rfl
theorem pl9 : plainT Try.prog 9 = true := by kernel_rfl
theorem sz10 : (Try.prog.info? 10).map (·.size) = some 1 := by kernel_rfl
theorem pl10 : plainT Try.prog 10 = true := by kernel_rfl
theorem sz11 : (Try.prog.info? 11).map (·.size) = some 1 := by kernel_rfl
theorem pl11 : plainT Try.prog 11 = true := by kernel_rfl
theorem sz12 : (Try.prog.info? 12).map (·.size) = some 1 := by kernel_rfl
theorem pl12 : plainT Try.prog 12 = true := by kernel_rfl
theorem sz13 : (Try.prog.info? 13).map (·.size) = some 2 := by kernel_rfl
theorem ag13 : aggT Try.prog 13 2 = true := by kernel_rfl
theorem fo13_0 : fieldOff Try.prog 13 0 = some 0 := by kernel_rfl
theorem fo13_1 : fieldOff Try.prog 13 1 = some 1 := by kernel_rfl
theorem sz14 : (Try.prog.info? 14).map (·.size) = some 2 := by kernel_rfl
theorem ag14 : aggT Try.prog 14 2 = true := by kernel_rfl
theorem fo14_0 : fieldOff Try.prog 14 0 = some 0 := by kernel_rfl
theorem fo14_1 : fieldOff Try.prog 14 1 = some 1 := by kernel_rfl
theorem sz15 : (Try.prog.info? 15).map (·.size) = some 1 := by kernel_rfl
theorem pl15 : plainT Try.prog 15 = true := by kernel_rfl
theorem sz16 : (Try.prog.info? 16).map (·.size) = some 1 := by kernel_rfl
theorem pl16 : plainT Try.prog 16 = true := by kernel_rfl
theorem sz17 : (Try.prog.info? 17).map (·.size) = some 1 := by kernel_rfl
theorem pl17 : plainT Try.prog 17 = true := by kernel_rfl
theorem sz18 : (Try.prog.info? 18).map (·.size) = some 1 := by kernel_rfl
theorem ag18 : aggT Try.prog 18 1 = true := by kernel_rfl
theorem fo18_0 : fieldOff Try.prog 18 0 = some 0 := by kernel_rfl
theorem sz19 : (Try.prog.info? 19).map (·.size) = some 1 := by kernel_rfl
theorem ag19 : aggT Try.prog 19 1 = true := by kernel_rfl
theorem fo19_0 : fieldOff Try.prog 19 0 = some 0 := by kernel_rfl
theorem sz21 : (Try.prog.info? 21).map (·.size) = some 1 := by kernel_rfl
theorem pl21 : plainT Try.prog 21 = true := by kernel_rfl
theorem sz22 : (Try.prog.info? 22).map (·.size) = some 1 := by kernel_rfl
theorem pl22 : plainT Try.prog 22 = true := by kernel_rfl
theorem sz23 : (Try.prog.info? 23).map (·.size) = some 1 := by kernel_rfl
theorem pl23 : plainT Try.prog 23 = true := by kernel_rfl
theorem sz24 : (Try.prog.info? 24).map (·.size) = some 16 := by kernel_rfl
theorem ag24 : aggT Try.prog 24 16 = true := by kernel_rfl
theorem sz25 : (Try.prog.info? 25).map (·.size) = some 20 := by kernel_rfl
theorem ag25 : aggT Try.prog 25 20 = true := by kernel_rfl
theorem fo25_0 : fieldOff Try.prog 25 0 = some 0 := by kernel_rfl
theorem fo25_1 : fieldOff Try.prog 25 1 = some 1 := by kernel_rfl
theorem fo25_2 : fieldOff Try.prog 25 2 = some 2 := by kernel_rfl
theorem fo25_3 : fieldOff Try.prog 25 3 = some 3 := by kernel_rfl
theorem fo25_4 : fieldOff Try.prog 25 4 = some 4 := by kernel_rfl
theorem sz26 : (Try.prog.info? 26).map (·.size) = some 20 := by kernel_rfl
theorem ag26 : aggT Try.prog 26 20 = true := by kernel_rfl
theorem fo26_0 : fieldOff Try.prog 26 0 = some 0 := by kernel_rfl
theorem fo26_1 : fieldOff Try.prog 26 1 = some 1 := by kernel_rfl
theorem fo26_2 : fieldOff Try.prog 26 2 = some 2 := by kernel_rfl
theorem fo26_3 : fieldOff Try.prog 26 3 = some 3 := by kernel_rfl
theorem fo26_4 : fieldOff Try.prog 26 4 = some 4 := by kernel_rfl
theorem sz27 : (Try.prog.info? 27).map (·.size) = some 1 := by kernel_rfl
theorem pl27 : plainT Try.prog 27 = true := by kernel_rfl
theorem sz28 : (Try.prog.info? 28).map (·.size) = some 1 := by kernel_rfl
theorem pl28 : plainT Try.prog 28 = true := by kernel_rfl
theorem sz29 : (Try.prog.info? 29).map (·.size) = some 1 := by kernel_rfl
theorem pl29 : plainT Try.prog 29 = true := by kernel_rfl
theorem sz30 : (Try.prog.info? 30).map (·.size) = some 1 := by kernel_rfl
theorem pl30 : plainT Try.prog 30 = true := by kernel_rfl
theorem sz31 : (Try.prog.info? 31).map (·.size) = some 1 := by kernel_rfl
theorem pl31 : plainT Try.prog 31 = true := by kernel_rfl
theorem sz32 : (Try.prog.info? 32).map (·.size) = some 1 := by kernel_rfl
theorem pl32 : plainT Try.prog 32 = true := by kernel_rfl
theorem sz33 : (Try.prog.info? 33).map (·.size) = some 1 := by kernel_rfl
theorem pl33 : plainT Try.prog 33 = true := by kernel_rfl
theorem sz34 : (Try.prog.info? 34).map (·.size) = some 1 := by kernel_rfl
theorem pl34 : plainT Try.prog 34 = true := by kernel_rfl
theorem sz35 : (Try.prog.info? 35).map (·.size) = some 1 := by kernel_rfl
theorem pl35 : plainT Try.prog 35 = true := by kernel_rfl
theorem sz37 : (Try.prog.info? 37).map (·.size) = some 1 := by kernel_rfl
theorem pl37 : plainT Try.prog 37 = true := by kernel_rfl
theorem sz38 : (Try.prog.info? 38).map (·.size) = some 1 := by kernel_rfl
theorem pl38 : plainT Try.prog 38 = true := by kernel_rfl
theorem sz39 : (Try.prog.info? 39).map (·.size) = some 22 := by kernel_rfl
theorem ag39 : aggT Try.prog 39 22 = true := by kernel_rfl
theorem fo39_0 : fieldOff Try.prog 39 0 = some 0 := by kernel_rfl
theorem fo39_1 : fieldOff Try.prog 39 1 = some 1 := by kernel_rfl
theorem fo39_2 : fieldOff Try.prog 39 2 = some 21 := by kernel_rfl
theorem sz40 : (Try.prog.info? 40).map (·.size) = some 22 := by kernel_rfl
theorem ag40 : aggT Try.prog 40 22 = true := by kernel_rfl
theorem fo40_0 : fieldOff Try.prog 40 0 = some 0 := by kernel_rfl
theorem fo40_1 : fieldOff Try.prog 40 1 = some 1 := by kernel_rfl
theorem fo40_2 : fieldOff Try.prog 40 2 = some 21 := by kernel_rfl
theorem sz42 : (Try.prog.info? 42).map (·.size) = some 1 := by kernel_rfl
theorem pl42 : plainT Try.prog 42 = true := by kernel_rfl
theorem sz43 : (Try.prog.info? 43).map (·.size) = some 1 := by kernel_rfl
theorem pl43 : plainT Try.prog 43 = true := by kernel_rfl
theorem sz44 : (Try.prog.info? 44).map (·.size) = some 1 := by kernel_rfl
theorem pl44 : plainT Try.prog 44 = true := by kernel_rfl
theorem sz45 : (Try.prog.info? 45).map (·.size) = some 1 := by kernel_rfl
theorem pl45 : plainT Try.prog 45 = true := by kernel_rfl
theorem sz46 : (Try.prog.info? 46).map (·.size) = some 1 := by kernel_rfl
theorem pl46 : plainT Try.prog 46 = true := by kernel_rfl
theorem sz47 : (Try.prog.info? 47).map (·.size) = some 1 := by kernel_rfl
theorem pl47 : plainT Try.prog 47 = true := by kernel_rfl
theorem sz48 : (Try.prog.info? 48).map (·.size) = some 2 := by kernel_rfl
theorem ag48 : aggT Try.prog 48 2 = true := by kernel_rfl
theorem fo48_0 : fieldOff Try.prog 48 0 = some 0 := by kernel_rfl
theorem fo48_1 : fieldOff Try.prog 48 1 = some 1 := by kernel_rfl
theorem sz49 : (Try.prog.info? 49).map (·.size) = some 2 := by kernel_rfl
theorem ag49 : aggT Try.prog 49 2 = true := by kernel_rfl
theorem fo49_0 : fieldOff Try.prog 49 0 = some 0 := by kernel_rfl
theorem fo49_1 : fieldOff Try.prog 49 1 = some 1 := by kernel_rfl
theorem sz51 : (Try.prog.info? 51).map (·.size) = some 1 := by kernel_rfl
theorem pl51 : plainT Try.prog 51 = true := by kernel_rfl
theorem sz52 : (Try.prog.info? 52).map (·.size) = some 1 := by kernel_rfl
theorem pl52 : plainT Try.prog 52 = true := by kernel_rfl
theorem sz53 : (Try.prog.info? 53).map (·.size) = some 1 := by kernel_rfl
theorem pl53 : plainT Try.prog 53 = true := by kernel_rfl
theorem sz55 : (Try.prog.info? 55).map (·.size) = some 1 := by kernel_rfl
theorem pl55 : plainT Try.prog 55 = true := by kernel_rfl
theorem sz56 : (Try.prog.info? 56).map (·.size) = some 1 := by kernel_rfl
theorem pl56 : plainT Try.prog 56 = true := by kernel_rfl
theorem sz58 : (Try.prog.info? 58).map (·.size) = some 1 := by kernel_rfl
theorem pl58 : plainT Try.prog 58 = true := by kernel_rfl
theorem sz59 : (Try.prog.info? 59).map (·.size) = some 1 := by kernel_rfl
theorem pl59 : plainT Try.prog 59 = true := by kernel_rfl
theorem sz60 : (Try.prog.info? 60).map (·.size) = some 1 := by kernel_rfl
theorem pl60 : plainT Try.prog 60 = true := by kernel_rfl
theorem sz61 : (Try.prog.info? 61).map (·.size) = some 1 := by kernel_rfl
theorem pl61 : plainT Try.prog 61 = true := by kernel_rfl
theorem sz62 : (Try.prog.info? 62).map (·.size) = some 1 := by kernel_rfl
theorem pl62 : plainT Try.prog 62 = true := by kernel_rfl
theorem sz63 : (Try.prog.info? 63).map (·.size) = some 1 := by kernel_rfl
theorem pl63 : plainT Try.prog 63 = true := by kernel_rfl
theorem sz64 : (Try.prog.info? 64).map (·.size) = some 1 := by kernel_rfl
theorem pl64 : plainT Try.prog 64 = true := by kernel_rfl
theorem sz65 : (Try.prog.info? 65).map (·.size) = some 2 := by kernel_rfl
theorem ag65 : aggT Try.prog 65 2 = true := by kernel_rfl
theorem fo65_0 : fieldOff Try.prog 65 0 = some 0 := by kernel_rfl
theorem fo65_1 : fieldOff Try.prog 65 1 = some 1 := by kernel_rfl
theorem sz66 : (Try.prog.info? 66).map (·.size) = some 2 := by kernel_rfl
theorem ag66 : aggT Try.prog 66 2 = true := by kernel_rfl
theorem fo66_0 : fieldOff Try.prog 66 0 = some 0 := by kernel_rfl
theorem fo66_1 : fieldOff Try.prog 66 1 = some 1 := by kernel_rfl
theorem sz68 : (Try.prog.info? 68).map (·.size) = some 1 := by kernel_rfl
theorem pl68 : plainT Try.prog 68 = true := by kernel_rfl
theorem sz69 : (Try.prog.info? 69).map (·.size) = some 1 := by kernel_rfl
theorem pl69 : plainT Try.prog 69 = true := by kernel_rfl
theorem sz70 : (Try.prog.info? 70).map (·.size) = some 2 := by kernel_rfl
theorem ag70 : aggT Try.prog 70 2 = true := by kernel_rfl
theorem fo70_0 : fieldOff Try.prog 70 0 = some 0 := by kernel_rfl
theorem fo70_1 : fieldOff Try.prog 70 1 = some 1 := by kernel_rfl
theorem sz71 : (Try.prog.info? 71).map (·.size) = some 2 := by kernel_rfl
theorem ag71 : aggT Try.prog 71 2 = true := by kernel_rfl
theorem fo71_0 : fieldOff Try.prog 71 0 = some 0 := by kernel_rfl
theorem fo71_1 : fieldOff Try.prog 71 1 = some 1 := by kernel_rfl
theorem sz72 : (Try.prog.info? 72).map (·.size) = some 1 := by kernel_rfl
theorem pl72 : plainT Try.prog 72 = true := by kernel_rfl
theorem sz73 : (Try.prog.info? 73).map (·.size) = some 1 := by kernel_rfl
theorem pl73 : plainT Try.prog 73 = true := by kernel_rfl
theorem sz74 : (Try.prog.info? 74).map (·.size) = some 1 := by kernel_rfl
theorem pl74 : plainT Try.prog 74 = true := by kernel_rfl
theorem sz75 : (Try.prog.info? 75).map (·.size) = some 1 := by kernel_rfl
theorem pl75 : plainT Try.prog 75 = true := by kernel_rfl
theorem sz76 : (Try.prog.info? 76).map (·.size) = some 1 := by kernel_rfl
theorem pl76 : plainT Try.prog 76 = true := by kernel_rfl
theorem sz77 : (Try.prog.info? 77).map (·.size) = some 4 := by kernel_rfl
theorem ag77 : aggT Try.prog 77 4 = true := by kernel_rfl
theorem fo77_0 : fieldOff Try.prog 77 0 = some 0 := by kernel_rfl
theorem fo77_1 : fieldOff Try.prog 77 1 = some 1 := by kernel_rfl
theorem fo77_2 : fieldOff Try.prog 77 2 = some 2 := by kernel_rfl
theorem fo77_3 : fieldOff Try.prog 77 3 = some 3 := by kernel_rfl
theorem sz78 : (Try.prog.info? 78).map (·.size) = some 4 := by kernel_rfl
theorem ag78 : aggT Try.prog 78 4 = true := by kernel_rfl
theorem fo78_0 : fieldOff Try.prog 78 0 = some 0 := by kernel_rfl
theorem fo78_1 : fieldOff Try.prog 78 1 = some 1 := by kernel_rfl
theorem fo78_2 : fieldOff Try.prog 78 2 = some 2 := by kernel_rfl
theorem fo78_3 : fieldOff Try.prog 78 3 = some 3 := by kernel_rfl
theorem sz82 : (Try.prog.info? 82).map (·.size) = some 1 := by kernel_rfl
theorem pl82 : plainT Try.prog 82 = true := by kernel_rfl
theorem sz83 : (Try.prog.info? 83).map (·.size) = some 1 := by kernel_rfl
theorem pl83 : plainT Try.prog 83 = true := by kernel_rfl
theorem sz84 : (Try.prog.info? 84).map (·.size) = some 1 := by kernel_rfl
theorem pl84 : plainT Try.prog 84 = true := by kernel_rfl
theorem sz85 : (Try.prog.info? 85).map (·.size) = some 1 := by kernel_rfl
theorem pl85 : plainT Try.prog 85 = true := by kernel_rfl
theorem sz86 : (Try.prog.info? 86).map (·.size) = some 1 := by kernel_rfl
theorem pl86 : plainT Try.prog 86 = true := by kernel_rfl
theorem sz87 : (Try.prog.info? 87).map (·.size) = some 1 := by kernel_rfl
theorem pl87 : plainT Try.prog 87 = true := by kernel_rfl
theorem sz88 : (Try.prog.info? 88).map (·.size) = some 11 := by kernel_rfl
theorem ag88 : aggT Try.prog 88 11 = true := by kernel_rfl
theorem fo88_0 : fieldOff Try.prog 88 0 = some 0 := by kernel_rfl
theorem fo88_1 : fieldOff Try.prog 88 1 = some 1 := by kernel_rfl
theorem fo88_2 : fieldOff Try.prog 88 2 = some 2 := by kernel_rfl
theorem fo88_3 : fieldOff Try.prog 88 3 = some 3 := by kernel_rfl
theorem fo88_4 : fieldOff Try.prog 88 4 = some 4 := by kernel_rfl
theorem fo88_5 : fieldOff Try.prog 88 5 = some 5 := by kernel_rfl
theorem fo88_6 : fieldOff Try.prog 88 6 = some 6 := by kernel_rfl
theorem fo88_7 : fieldOff Try.prog 88 7 = some 7 := by kernel_rfl
theorem fo88_8 : fieldOff Try.prog 88 8 = some 8 := by kernel_rfl
theorem fo88_9 : fieldOff Try.prog 88 9 = some 9 := by kernel_rfl
theorem fo88_10 : fieldOff Try.prog 88 10 = some 10 := by kernel_rfl
theorem sz89 : (Try.prog.info? 89).map (·.size) = some 11 := by kernel_rfl
theorem ag89 : aggT Try.prog 89 11 = true := by kernel_rfl
theorem fo89_0 : fieldOff Try.prog 89 0 = some 0 := by kernel_rfl
theorem fo89_1 : fieldOff Try.prog 89 1 = some 1 := by kernel_rfl
theorem fo89_2 : fieldOff Try.prog 89 2 = some 2 := by kernel_rfl
theorem fo89_3 : fieldOff Try.prog 89 3 = some 3 := by kernel_rfl
theorem fo89_4 : fieldOff Try.prog 89 4 = some 4 := by kernel_rfl
theorem fo89_5 : fieldOff Try.prog 89 5 = some 5 := by kernel_rfl
theorem fo89_6 : fieldOff Try.prog 89 6 = some 6 := by kernel_rfl
theorem fo89_7 : fieldOff Try.prog 89 7 = some 7 := by kernel_rfl
theorem fo89_8 : fieldOff Try.prog 89 8 = some 8 := by kernel_rfl
theorem fo89_9 : fieldOff Try.prog 89 9 = some 9 := by kernel_rfl
theorem fo89_10 : fieldOff Try.prog 89 10 = some 10 := by kernel_rfl
theorem nm2 : (Try.f2.name == "runtime.NumGoroutine") = false := by kernel_rfl
theorem nm3 : (Try.f3.name == "runtime.NumGoroutine") = false := by kernel_rfl
theorem nm4 : (Try.f4.name == "runtime.NumGoroutine") = false := by kernel_rfl
theorem nm5 : (Try.f5.name == "runtime.NumGoroutine") = false := by kernel_rfl
theorem nm6 : (Try.f6.name == "runtime.NumGoroutine") = false := by kernel_rfl
theorem nm7 : (Try.f7.name == "runtime.NumGoroutine") = false := by kernel_rfl
theorem nm8 : (Try.f8.name == "runtime.NumGoroutine") = false := by kernel_rfl
theorem nm9 : (Try.f9.name == "runtime.NumGoroutine") = false := by kernel_rfl
theorem nm10 : (Try.f10.name == "runtime.NumGoroutine") = false := by kernel_rfl
theorem nm11 : (Try.f11.name == "runtime.NumGoroutine") = false := by kernel_rfl
theorem nm12 : (Try.f12.name == "runtime.NumGoroutine") = false := by kernel_rfl
theorem nm13 : (Try.f13.name == "runtime.NumGoroutine") = false := by kernel_rfl
theorem nm14 : (Try.f14.name == "runtime.NumGoroutine") = false := by kernel_rfl
theorem nm15 : (Try.f15.name == "runtime.NumGoroutine") = false := by kernel_rfl
theorem nm16 : (Try.f16.name == "runtime.NumGoroutine") = false := by kernel_rfl
theorem nm17 : (Try.f17.name == "runtime.NumGoroutine") = false := by kernel_rfl
theorem nm18 : (Try.f18.name == "runtime.NumGoroutine") = false := by kernel_rfl
theorem nm19 : (Try.f19.name == "runtime.NumGoroutine") = false := by kernel_rfl
theorem nm20 : (Try.f20.name == "runtime.NumGoroutine") = false := by kernel_rfl
theorem nm21 : (Try.f21.name == "runtime.NumGoroutine") = false := by kernel_rfl
theorem nm22 : (Try.f22.name == "runtime.NumGoroutine") = false := by kernel_rfl
theorem nm23 : (Try.f23.name == "runtime.NumGoroutine") = false := by kernel_rfl
theorem nm24 : (Try.f24.name == "runtime.NumGoroutine") = false := by kernel_rfl
theorem nm25 : (Try.f25.name == "runtime.NumGoroutine") = false := by kernel_rfl
theorem nm26 : (Try.f26.name == "runtime.NumGoroutine") = false := by kernel_rfl
theorem nm27 : (Try.f27.name == "runtime.NumGoroutine") = false := by kernel_rfl
theorem nm28 : (Try.f28.name == "runtime.NumGoroutine") = false := by kernel_rfl
theorem nm29 : (Try.f29.name == "runtime.NumGoroutine") = false := by kernel_rfl
theorem nm30 : (Try.f30.name == "runtime.NumGoroutine") = false := by kernel_rfl
theorem nm31 : (Try.f31.name == "runtime.NumGoroutine") = false := by kernel_rfl
theorem nm32 : (Try.f32.name == "runtime.NumGoroutine") = false := by kernel_rfl
theorem nm33 : (Try.f33.name == "runtime.NumGoroutine") = false := by kernel_rfl
theorem nm34 : (Try.f34.name == "runtime.NumGoroutine") = false := by kernel_rfl
theorem nm35 : (Try.f35.name == "runtime.NumGoroutine") = false := by kernel_rfl
set_option maxRecDepth 100000 in
set_option maxHeartbeats 4000000 in
theorem num_c (n : Int) (w : World) : Calls Try.prog 10 #[.int .i64 n] w (Ret fun v w' => v = .int .i64 n ∧ w' = w) := by
  have hF := Only.refl (fun _ => False) w
  refine fx_enter Try.func10 rfl (N := (4, [])) (T := [(0, .int .i64 n)]) rfl (show 1 ≤ 4 by decide) ⟨rfl, trivial⟩ fun a fr => ?_
  refine wp_seq ?_
  refine wp_region_lit ?_  -- region 0
  refine fx_val (v := .int .i64 0) fr rfl rfl (by first | decide | simp) (x_assign rfl rfl) ?_
  clear fr a; intro a fr
  refine wpList_nil ?_
  refine fx_next ?_
  refine wp_seq ?_
  refine wp_region_lit ?_  -- region 1
  refine fx_val (v := .int .i64 n) fr rfl rfl (by first | decide | simp) (x_move rfl (fr.ev rfl)) ?_
  clear fr a; intro a fr
  refine fx_val (v := .int .i64 n) fr rfl rfl (by first | decide | simp) (x_assign rfl (fr.ev rfl)) ?_
  clear fr a; intro a fr
  refine wpList_nil ?_
  refine fx_next ?_
  refine wp_ret ?_
  refine fx_ret fr [.tmp 2] [.int .i64 n] rfl ⟨rfl, trivial⟩ rfl ?_
  exact ⟨_, rfl, rfl, rfl⟩
set_option maxRecDepth 100000 in
set_option maxHeartbeats 4000000 in
theorem cache_c (n : Int) (w : World) : Calls Try.prog 29 #[.int .i64 n] w (Ret fun v w' => v = .bool (isCache n) ∧ w' = w) := by
  have hF := Only.refl (fun _ => False) w
  refine fx_enter Try.func29 rfl (N := (9, [])) (T := [(0, .int .i64 n)]) rfl (show 1 ≤ 9 by decide) ⟨rfl, trivial⟩ fun a fr => ?_
  refine wp_seq ?_
  refine wp_region_lit ?_  -- region 0
  refine fx_val (v := .bool false) fr rfl rfl (by first | decide | simp) (x_assign rfl rfl) ?_
  clear fr a; intro a fr
  refine wpList_nil ?_
  refine fx_next ?_
  refine wp_seq ?_
  refine wp_region_lit ?_  -- region 1
  refine fx_val (v := .int .i64 n) fr rfl rfl (by first | decide | simp) (x_move rfl (fr.ev rfl)) ?_
  clear fr a; intro a fr
  refine fx_val (v := .bool (decide (0 ≤ n))) fr rfl rfl (by first | decide | simp) (x_geq rfl (fr.ev rfl) rfl rfl) ?_
  clear fr a; intro a fr
  refine fx_val (v := .bool (decide (0 ≤ n))) fr rfl rfl (by first | decide | simp) (x_move rfl (fr.ev rfl)) ?_
  clear fr a; intro a fr
  refine fx_may (g := (decide (0 ≤ n))) (v := .int .i64 n) fr rfl rfl rfl (by simp) rfl (by first | decide | simp) (fun hg => x_move rfl (fr.ev rfl)) ?_
  clear fr a; intro a fr
  refine fx_may (g := (decide (0 ≤ n))) (v := .bool (decide (n ≤ 3))) fr rfl rfl rfl (by simp) rfl (by first | decide | simp) (fun hg => x_leq rfl ((fr.ev rfl).trans (onlyIf_t hg)) rfl rfl) ?_
  clear fr a; intro a fr
  refine fx_val (v := .bool ((decide (0 ≤ n)) && (decide (n ≤ 3)))) fr rfl rfl (by first | decide | simp) (x_pick_and rfl (fr.ev rfl) (fun hb => ((fr.ev rfl)).trans (onlyIf_t (by simp_all))) (fun _ => rfl) rfl) ?_
  clear fr a; intro a fr
  refine fx_val (v := .bool ((decide (0 ≤ n)) && (decide (n ≤ 3)))) fr rfl rfl (by first | decide | simp) (x_assign rfl (fr.ev rfl)) ?_
  clear fr a; intro a fr
  refine wpList_nil ?_
  refine fx_next ?_
  refine wp_ret ?_
  refine fx_ret fr [.tmp 2] [.bool ((decide (0 ≤ n)) && (decide (n ≤ 3)))] rfl ⟨rfl, trivial⟩ rfl ?_
  exact ⟨_, rfl, congrArg Value.bool (by simp [isCache]; try omega), rfl⟩
set_option maxRecDepth 100000 in
set_option maxHeartbeats 4000000 in
theorem refchk_c (m : Msg) (w : World) : Calls Try.prog 12 #[.agg (msgE.arr m)] w (Ret fun v w' => v = .int .i64 (chk m) ∧ New w w') := by
  have hF := Only.refl (fun _ => False) w
  refine fx_enter Try.func12 rfl (N := (68, [])) (T := [(0, .agg (msgE.arr m))]) rfl (show 1 ≤ 68 by decide) ⟨rfl, trivial⟩ fun a fr => ?_
  refine wp_seq ?_
  refine wp_region_lit ?_  -- region 0
  refine fx_new fr rfl rfl (by first | decide | simp) (x_box (cs := msgE.arr m) rfl (fr.ev rfl) rfl) ?_
  clear fr a
  intro b1 w2 hN3 B4 hb5 a fr
  have g_b1 := Nat.le_trans hF.size hb5
  replace hF := hF.trNew hN3
  refine fx_val (v := .int .i64 0) fr rfl rfl (by first | decide | simp) (x_assign rfl rfl) ?_
  clear fr a; intro a fr
  refine wpList_nil ?_
  refine fx_next ?_
  refine wp_seq ?_
  refine wp_region_lit ?_  -- region 1
  refine fx_val (v := .pointer (some ⟨b1, 0, none⟩)) fr rfl rfl (by first | decide | simp) (x_fieldAddr fo26_0 rfl (fr.ev rfl) rfl) ?_
  clear fr a; intro a fr
  refine fx_val (v := .int .i64 m.kind) fr rfl rfl (by first | decide | simp) (x_load1 pl22 rfl (fr.ev rfl) (B4.cell 0 rfl)) ?_
  clear fr a; intro a fr
  refine fx_val (v := .bool (decide (m.kind = 3))) fr rfl rfl (by first | decide | simp) (x_eql rfl (fr.ev rfl) rfl rfl) ?_
  clear fr a; intro a fr
  refine fx_val (v := .bool (decide (m.kind = 3))) fr rfl rfl (by first | decide | simp) (x_move rfl (fr.ev rfl)) ?_
  clear fr a; intro a fr
  refine fx_may (g := !(decide (m.kind = 3))) (v := .pointer (some ⟨b1, 0, none⟩)) fr rfl rfl rfl (by simp) rfl (by first | decide | simp) (fun hg => x_fieldAddr fo26_0 rfl (fr.ev rfl) rfl) ?_
  clear fr a; intro a fr
  refine fx_may (g := !(decide (m.kind = 3))) (v := .int .i64 m.kind) fr rfl rfl rfl (by simp) rfl (by first | decide | simp) (fun hg => x_load1 pl22 rfl ((fr.ev rfl).trans (onlyIf_t hg)) (B4.cell 0 rfl)) ?_
  clear fr a; intro a fr
  refine fx_may (g := !(decide (m.kind = 3))) (v := .bool (decide (m.kind = 11))) fr rfl rfl rfl (by simp) rfl (by first | decide | simp) (fun hg => x_eql rfl ((fr.ev rfl).trans (onlyIf_t hg)) rfl rfl) ?_
  clear fr a; intro a fr
  refine fx_val (v := .bool ((decide (m.kind = 3)) || (decide (m.kind = 11)))) fr rfl rfl (by first | decide | simp) (x_pick_or rfl (fr.ev rfl) (fun _ => rfl) (fun hb => ((fr.ev rfl)).trans (onlyIf_t (by simp_all))) rfl) ?_
  clear fr a; intro a fr
  refine fx_val (v := .bool ((decide (m.kind = 3)) || (decide (m.kind = 11)))) fr rfl rfl (by first | decide | simp) (x_move rfl (fr.ev rfl)) ?_
  clear fr a; intro a fr
  refine fx_may (g := !((decide (m.kind = 3)) || (decide (m.kind = 11)))) (v := .pointer (some ⟨b1, 0, none⟩)) fr rfl rfl rfl (by simp) rfl (by first | decide | simp) (fun hg => x_fieldAddr fo26_0 rfl (fr.ev rfl) rfl) ?_
  clear fr a; intro a fr
  refine fx_may (g := !((decide (m.kind = 3)) || (decide (m.kind = 11)))) (v := .int .i64 m.kind) fr rfl rfl rfl (by simp) rfl (by first | decide | simp) (fun hg => x_load1 pl22 rfl ((fr.ev rfl).trans (onlyIf_t hg)) (B4.cell 0 rfl)) ?_
  clear fr a; intro a fr
  refine fx_may (g := !((decide (m.kind = 3)) || (decide (m.kind = 11)))) (v := .bool (decide (m.kind = 8))) fr rfl rfl rfl (by simp) rfl (by first | decide | simp) (fun hg => x_eql rfl ((fr.ev rfl).trans (onlyIf_t hg)) rfl rfl) ?_
  clear fr a; intro a fr
  refine fx_val (v := .bool (((decide (m.kind = 3)) || (decide (m.kind = 11))) || (decide (m.kind = 8)))) fr rfl rfl (by first | decide | simp) (x_pick_or rfl (fr.ev rfl) (fun _ => rfl) (fun hb => ((fr.ev rfl)).trans (onlyIf_t (by simp_all))) rfl) ?_
  clear fr a; intro a fr
  refine fx_val (v := .bool (((decide (m.kind = 3)) || (decide (m.kind = 11))) || (decide (m.kind = 8)))) fr rfl rfl (by first | decide | simp) (x_move rfl (fr.ev rfl)) ?_
  clear fr a; intro a fr
  refine fx_may (g := !(((decide (m.kind = 3)) || (decide (m.kind = 11))) || (decide (m.kind = 8)))) (v := .pointer (some ⟨b1, 0, none⟩)) fr rfl rfl rfl (by simp) rfl (by first | decide | simp) (fun hg => x_fieldAddr fo26_0 rfl (fr.ev rfl) rfl) ?_
  clear fr a; intro a fr
  refine fx_may (g := !(((decide (m.kind = 3)) || (decide (m.kind = 11))) || (decide (m.kind = 8)))) (v := .int .i64 m.kind) fr rfl rfl rfl (by simp) rfl (by first | decide | simp) (fun hg => x_load1 pl22 rfl ((fr.ev rfl).trans (onlyIf_t hg)) (B4.cell 0 rfl)) ?_
  clear fr a; intro a fr
  refine fx_may (g := !(((decide (m.kind = 3)) || (decide (m.kind = 11))) || (decide (m.kind = 8)))) (v := .bool (decide (m.kind = 9))) fr rfl rfl rfl (by simp) rfl (by first | decide | simp) (fun hg => x_eql rfl ((fr.ev rfl).trans (onlyIf_t hg)) rfl rfl) ?_
  clear fr a; intro a fr
  refine fx_val (v := .bool ((((decide (m.kind = 3)) || (decide (m.kind = 11))) || (decide (m.kind = 8))) || (decide (m.kind = 9)))) fr rfl rfl (by first | decide | simp) (x_pick_or rfl (fr.ev rfl) (fun _ => rfl) (fun hb => ((fr.ev rfl)).trans (onlyIf_t (by simp_all))) rfl) ?_
  clear fr a; intro a fr
  refine fx_val (v := .bool ((((decide (m.kind = 3)) || (decide (m.kind = 11))) || (decide (m.kind = 8))) || (decide (m.kind = 9)))) fr rfl rfl (by first | decide | simp) (x_move rfl (fr.ev rfl)) ?_
  clear fr a; intro a fr
  refine fx_may (g := !((((decide (m.kind = 3)) || (decide (m.kind = 11))) || (decide (m.kind = 8))) || (decide (m.kind = 9)))) (v := .pointer (some ⟨b1, 0, none⟩)) fr rfl rfl rfl (by simp) rfl (by first | decide | simp) (fun hg => x_fieldAddr fo26_0 rfl (fr.ev rfl) rfl) ?_
  clear fr a; intro a fr
  refine fx_may (g := !((((decide (m.kind = 3)) || (decide (m.kind = 11))) || (decide (m.kind = 8))) || (decide (m.kind = 9)))) (v := .int .i64 m.kind) fr rfl rfl rfl (by simp) rfl (by first | decide | simp) (fun hg => x_load1 pl22 rfl ((fr.ev rfl).trans (onlyIf_t hg)) (B4.cell 0 rfl)) ?_
  clear fr a; intro a fr
  refine fx_may (g := !((((decide (m.kind = 3)) || (decide (m.kind = 11))) || (decide (m.kind = 8))) || (decide (m.kind = 9)))) (v := .bool (decide (m.kind = 10))) fr rfl rfl rfl (by simp) rfl (by first | decide | simp) (fun hg => x_eql rfl ((fr.ev rfl).trans (onlyIf_t hg)) rfl rfl) ?_
  clear fr a; intro a fr
  refine fx_val (v := .bool (((((decide (m.kind = 3)) || (decide (m.kind = 11))) || (decide (m.kind = 8))) || (decide (m.kind = 9))) || (decide (m.kind = 10)))) fr rfl rfl (by first | decide | simp) (x_pick_or rfl (fr.ev rfl) (fun _ => rfl) (fun hb => ((fr.ev rfl)).trans (onlyIf_t (by simp_all))) rfl) ?_
  clear fr a; intro a fr
  refine fx_val (v := .bool (((((decide (m.kind = 3)) || (decide (m.kind = 11))) || (decide (m.kind = 8))) || (decide (m.kind = 9))) || (decide (m.kind = 10)))) fr rfl rfl (by first | decide | simp) (x_assign rfl (fr.ev rfl)) ?_
  clear fr a; intro a fr
  refine wpList_nil ?_
  refine fx_next ?_
  refine wp_seq ?_
  refine wp_seq ?_
  refine wp_region_lit ?_  -- region 2
  refine fx_val (v := .bool (((((decide (m.kind = 3)) || (decide (m.kind = 11))) || (decide (m.kind = 8))) || (decide (m.kind = 9))) || (decide (m.kind = 10)))) fr rfl rfl (by first | decide | simp) (x_move rfl (fr.ev rfl)) ?_
  clear fr a; intro a fr
  refine fx_val (v := .bool (!(((((decide (m.kind = 3)) || (decide (m.kind = 11))) || (decide (m.kind = 8))) || (decide (m.kind = 9))) || (decide (m.kind = 10))))) fr rfl rfl (by first | decide | simp) (x_not rfl (fr.ev rfl) rfl) ?_
  clear fr a; intro a fr
  refine fx_val (v := .bool (!(((((decide (m.kind = 3)) || (decide (m.kind = 11))) || (decide (m.kind = 8))) || (decide (m.kind = 9))) || (decide (m.kind = 10))))) fr rfl rfl (by first | decide | simp) (x_move rfl (fr.ev rfl)) ?_
  clear fr a; intro a fr
  refine fx_may (g := (!(((((decide (m.kind = 3)) || (decide (m.kind = 11))) || (decide (m.kind = 8))) || (decide (m.kind = 9))) || (decide (m.kind = 10))))) (v := .pointer (some ⟨b1, 4, none⟩)) fr rfl rfl rfl (by simp) rfl (by first | decide | simp) (fun hg => x_fieldAddr fo26_4 rfl (fr.ev rfl) rfl) ?_
  clear fr a; intro a fr
  refine fx_may (g := (!(((((decide (m.kind = 3)) || (decide (m.kind = 11))) || (decide (m.kind = 8))) || (decide (m.kind = 9))) || (decide (m.kind = 10))))) (v := .agg (bsE.arr m.bs)) fr rfl rfl rfl (by simp) rfl (by first | decide | simp) (fun hg => x_loadE (E := bsE) ag24 rfl rfl ((fr.ev rfl).trans (onlyIf_t hg)) (B4.part (msg_bs _))) ?_
  clear fr a; intro a fr
  refine fx_may (g := (!(((((decide (m.kind = 3)) || (decide (m.kind = 11))) || (decide (m.kind = 8))) || (decide (m.kind = 9))) || (decide (m.kind = 10))))) (v := .agg (bsE.arr bs0)) fr rfl rfl rfl (by simp) rfl (by first | decide | simp) (fun hg => x_build (cells := bsE.arr bs0) rfl (by kernel_rfl)) ?_
  clear fr a; intro a fr
  refine fx_may (g := (!(((((decide (m.kind = 3)) || (decide (m.kind = 11))) || (decide (m.kind = 8))) || (decide (m.kind = 9))) || (decide (m.kind = 10))))) (v := .bool (!decide (m.bs = bs0))) fr rfl rfl rfl (by simp) rfl (by first | decide | simp) (fun hg => x_neE bsER rfl rfl ((fr.ev rfl).trans (onlyIf_t hg)) ((fr.ev rfl).trans (onlyIf_t hg)) rfl) ?_
  clear fr a; intro a fr
  refine fx_val (v := .bool ((!(((((decide (m.kind = 3)) || (decide (m.kind = 11))) || (decide (m.kind = 8))) || (decide (m.kind = 9))) || (decide (m.kind = 10)))) && (!decide (m.bs = bs0)))) fr rfl rfl (by first | decide | simp) (x_pick_and rfl (fr.ev rfl) (fun hb => ((fr.ev rfl)).trans (onlyIf_t (by simp_all))) (fun _ => rfl) rfl) ?_
  clear fr a; intro a fr
  refine wpList_nil ?_
  refine fx_next ?_
  refine fx_cond fr rfl (fun hc6 => ?_) (fun hc6 => ?_)
  · skip
    refine wp_seq ?_
    refine wp_region_lit ?_  -- region 3
    refine fx_val (v := .int .i64 2) fr rfl rfl (by first | decide | simp) (x_assign rfl rfl) ?_
    clear fr a; intro a fr
    refine wpList_nil ?_
    refine fx_next ?_
    refine wp_ret ?_
    refine fx_rt ?_
    refine fx_ret fr [.tmp 2] [.int .i64 2] rfl ⟨rfl, trivial⟩ rfl ?_
    exact ⟨_, rfl, congrArg (Value.int .i64) (by have hx := home_not m.kind; clear fr; by_cases e1 : m.dst = 4 <;> by_cases e2 : m.src = 4 <;> simp_all [chk, goodMsg, bytesK]), hF⟩
  · skip
    refine wp_skip ?_
    refine fx_next ?_
    refine wp_seq ?_
    refine wp_seq ?_
    refine wp_region_lit ?_  -- region 4
    refine fx_val (v := .pointer (some ⟨b1, 0, none⟩)) fr rfl rfl (by first | decide | simp) (x_fieldAddr fo26_0 rfl (fr.ev rfl) rfl) ?_
    clear fr a; intro a fr
    refine fx_val (v := .int .i64 m.kind) fr rfl rfl (by first | decide | simp) (x_load1 pl22 rfl (fr.ev rfl) (B4.cell 0 rfl)) ?_
    clear fr a; intro a fr
    refine wpList_nil ?_
    refine fx_next ?_
    refine wp_block ?_
    refine fx_join (fun a w => w2 = w ∧ Fr (68, []) [(1, .pointer (some ⟨b1, 0, none⟩)), (36, .int .i64 m.kind), (37, .bool (homeK m.kind))] a) ?_ ?_
    · skip
      refine wp_seq ?_
      refine wp_region_lit ?_  -- region 5
      refine fx_val (v := .bool (decide (m.kind = 1))) fr rfl rfl (by first | decide | simp) (x_eql rfl (fr.ev rfl) rfl rfl) ?_
      clear fr a; intro a fr
      refine fx_val (v := .bool (decide (m.kind = 1))) fr rfl rfl (by first | decide | simp) (x_assign rfl (fr.ev rfl)) ?_
      clear fr a; intro a fr
      refine wpList_nil ?_
      refine fx_next ?_
      refine fx_cond fr rfl (fun hc7 => ?_) (fun hc7 => ?_)
      · skip
        have hc7 := of_decide_eq_true hc7
        refine wp_skip ?_
        refine fx_next ?_
        exact ⟨rfl, fr.sub ⟨rfl, rfl, by show look _ 37 = some (.bool (homeK m.kind)); rw [show homeK m.kind = decide (m.kind = 1) by simp [homeK, hc6, hc7]]; rfl, trivial⟩⟩
      · skip
        have hc7 := of_decide_eq_false hc7
        refine wp_seq ?_
        refine wp_region_lit ?_  -- region 6
        refine fx_val (v := .bool (decide (m.kind = 2))) fr rfl rfl (by first | decide | simp) (x_eql rfl (fr.ev rfl) rfl rfl) ?_
        clear fr a; intro a fr
        refine fx_val (v := .bool (decide (m.kind = 2))) fr rfl rfl (by first | decide | simp) (x_assign rfl (fr.ev rfl)) ?_
        clear fr a; intro a fr
        refine wpList_nil ?_
        refine fx_next ?_
        refine fx_cond fr rfl (fun hc8 => ?_) (fun hc8 => ?_)
        · skip
          have hc8 := of_decide_eq_true hc8
          refine wp_skip ?_
          refine fx_next ?_
          exact ⟨rfl, fr.sub ⟨rfl, rfl, by show look _ 37 = some (.bool (homeK m.kind)); rw [show homeK m.kind = decide (m.kind = 2) by simp [homeK, hc6, hc7, hc8]]; rfl, trivial⟩⟩
        · skip
          have hc8 := of_decide_eq_false hc8
          refine wp_seq ?_
          refine wp_region_lit ?_  -- region 7
          refine fx_val (v := .bool (decide (m.kind = 3))) fr rfl rfl (by first | decide | simp) (x_eql rfl (fr.ev rfl) rfl rfl) ?_
          clear fr a; intro a fr
          refine fx_val (v := .bool (decide (m.kind = 3))) fr rfl rfl (by first | decide | simp) (x_assign rfl (fr.ev rfl)) ?_
          clear fr a; intro a fr
          refine wpList_nil ?_
          refine fx_next ?_
          refine fx_cond fr rfl (fun hc9 => ?_) (fun hc9 => ?_)
          · skip
            have hc9 := of_decide_eq_true hc9
            refine wp_skip ?_
            refine fx_next ?_
            exact ⟨rfl, fr.sub ⟨rfl, rfl, by show look _ 37 = some (.bool (homeK m.kind)); rw [show homeK m.kind = decide (m.kind = 3) by simp [homeK, hc6, hc7, hc8, hc9]]; rfl, trivial⟩⟩
          · skip
            have hc9 := of_decide_eq_false hc9
            refine wp_seq ?_
            refine wp_region_lit ?_  -- region 8
            refine fx_val (v := .bool (decide (m.kind = 11))) fr rfl rfl (by first | decide | simp) (x_eql rfl (fr.ev rfl) rfl rfl) ?_
            clear fr a; intro a fr
            refine fx_val (v := .bool (decide (m.kind = 11))) fr rfl rfl (by first | decide | simp) (x_assign rfl (fr.ev rfl)) ?_
            clear fr a; intro a fr
            refine wpList_nil ?_
            refine fx_next ?_
            refine fx_cond fr rfl (fun hc10 => ?_) (fun hc10 => ?_)
            · skip
              have hc10 := of_decide_eq_true hc10
              refine wp_skip ?_
              refine fx_next ?_
              exact ⟨rfl, fr.sub ⟨rfl, rfl, by show look _ 37 = some (.bool (homeK m.kind)); rw [show homeK m.kind = decide (m.kind = 11) by simp [homeK, hc6, hc7, hc8, hc9, hc10]]; rfl, trivial⟩⟩
            · skip
              have hc10 := of_decide_eq_false hc10
              refine wp_seq ?_
              refine wp_region_lit ?_  -- region 9
              refine fx_val (v := .bool (decide (m.kind = 12))) fr rfl rfl (by first | decide | simp) (x_eql rfl (fr.ev rfl) rfl rfl) ?_
              clear fr a; intro a fr
              refine fx_val (v := .bool (decide (m.kind = 12))) fr rfl rfl (by first | decide | simp) (x_assign rfl (fr.ev rfl)) ?_
              clear fr a; intro a fr
              refine wpList_nil ?_
              refine fx_next ?_
              refine fx_cond fr rfl (fun hc11 => ?_) (fun hc11 => ?_)
              · skip
                have hc11 := of_decide_eq_true hc11
                refine wp_skip ?_
                refine fx_next ?_
                exact ⟨rfl, fr.sub ⟨rfl, rfl, by show look _ 37 = some (.bool (homeK m.kind)); rw [show homeK m.kind = decide (m.kind = 12) by simp [homeK, hc6, hc7, hc8, hc9, hc10, hc11]]; rfl, trivial⟩⟩
              · skip
                have hc11 := of_decide_eq_false hc11
                refine wp_region_lit ?_  -- region 10
                refine fx_val (v := .bool (decide (m.kind = 13))) fr rfl rfl (by first | decide | simp) (x_eql rfl (fr.ev rfl) rfl rfl) ?_
                clear fr a; intro a fr
                refine fx_val (v := .bool (decide (m.kind = 13))) fr rfl rfl (by first | decide | simp) (x_assign rfl (fr.ev rfl)) ?_
                clear fr a; intro a fr
                refine wpList_nil ?_
                refine fx_next ?_
                exact ⟨rfl, fr.sub ⟨rfl, rfl, by show look _ 37 = some (.bool (homeK m.kind)); rw [show homeK m.kind = decide (m.kind = 13) by simp [homeK, hc6, hc7, hc8, hc9, hc10, hc11]]; rfl, trivial⟩⟩
    clear fr a
    rintro a _ ⟨rfl, fr⟩
    refine fx_cond fr rfl (fun hc12 => ?_) (fun hc12 => ?_)
    · skip
      refine wp_seq ?_
      refine wp_region_lit ?_  -- region 11
      refine fx_val (v := .pointer (some ⟨b1, 1, none⟩)) fr rfl rfl (by first | decide | simp) (x_fieldAddr fo26_1 rfl (fr.ev rfl) rfl) ?_
      clear fr a; intro a fr
      refine fx_val (v := .int .i64 m.src) fr rfl rfl (by first | decide | simp) (x_load1 pl3 rfl (fr.ev rfl) (B4.cell 1 rfl)) ?_
      clear fr a; intro a fr
      refine fx_call fr rfl rfl (by first | decide | simp) (x_call (vs := [.int .i64 m.src]) rfl rfl ⟨(fr.ev rfl), trivial⟩ Try.func29 nm29 rfl) (cache_c m.src _) ?_
      clear fr a
      rintro v _ ⟨rfl, rfl⟩ a fr
      refine fx_val (v := .bool (isCache m.src)) fr rfl rfl (by first | decide | simp) (x_move rfl (fr.ev rfl)) ?_
      clear fr a; intro a fr
      refine fx_may (g := (isCache m.src)) (v := .pointer (some ⟨b1, 2, none⟩)) fr rfl rfl rfl (by simp) rfl (by first | decide | simp) (fun hg => x_fieldAddr fo26_2 rfl (fr.ev rfl) rfl) ?_
      clear fr a; intro a fr
      refine fx_may (g := (isCache m.src)) (v := .int .i64 m.dst) fr rfl rfl rfl (by simp) rfl (by first | decide | simp) (fun hg => x_load1 pl3 rfl ((fr.ev rfl).trans (onlyIf_t hg)) (B4.cell 2 rfl)) ?_
      clear fr a; intro a fr
      refine fx_may (g := (isCache m.src)) (v := .bool (decide (m.dst = 4))) fr rfl rfl rfl (by simp) rfl (by first | decide | simp) (fun hg => x_eql rfl ((fr.ev rfl).trans (onlyIf_t hg)) rfl rfl) ?_
      clear fr a; intro a fr
      refine fx_val (v := .bool ((isCache m.src) && (decide (m.dst = 4)))) fr rfl rfl (by first | decide | simp) (x_pick_and rfl (fr.ev rfl) (fun hb => ((fr.ev rfl)).trans (onlyIf_t (by simp_all))) (fun _ => rfl) rfl) ?_
      clear fr a; intro a fr
      refine wpList_nil ?_
      refine fx_next ?_
      refine fx_cond fr rfl (fun hc15 => ?_) (fun hc15 => ?_)
      · skip
        refine wp_seq ?_
        refine wp_region_lit ?_  -- region 12
        refine fx_val (v := .int .i64 0) fr rfl rfl (by first | decide | simp) (x_assign rfl rfl) ?_
        clear fr a; intro a fr
        refine wpList_nil ?_
        refine fx_next ?_
        refine wp_ret ?_
        refine fx_rb ?_
        refine fx_rt ?_
        refine fx_ret fr [.tmp 2] [.int .i64 0] rfl ⟨rfl, trivial⟩ rfl ?_
        exact ⟨_, rfl, congrArg (Value.int .i64) (by have hx := home_not m.kind; clear fr; by_cases e1 : m.dst = 4 <;> by_cases e2 : m.src = 4 <;> simp_all [chk, goodMsg, bytesK]), hF⟩
      · skip
        refine wp_skip ?_
        refine fx_blk ?_
        refine fx_next ?_
        refine wp_seq ?_
        refine wp_region_lit ?_  -- region 22
        refine fx_val (v := .int .i64 2) fr rfl rfl (by first | decide | simp) (x_assign rfl rfl) ?_
        clear fr a; intro a fr
        refine wpList_nil ?_
        refine fx_next ?_
        refine wp_ret ?_
        refine fx_ret fr [.tmp 2] [.int .i64 2] rfl ⟨rfl, trivial⟩ rfl ?_
        exact ⟨_, rfl, congrArg (Value.int .i64) (by have hx := home_not m.kind; clear fr; by_cases e1 : m.dst = 4 <;> by_cases e2 : m.src = 4 <;> simp_all [chk, goodMsg, bytesK]), hF⟩
    · skip
      refine fx_join (fun a w => w2 = w ∧ Fr (68, []) [(1, .pointer (some ⟨b1, 0, none⟩)), (36, .int .i64 m.kind), (37, .bool (homeK m.kind)), (52, .bool (cacheK m.kind))] a) ?_ ?_
      · skip
        refine wp_seq ?_
        refine wp_region_lit ?_  -- region 13
        refine fx_val (v := .bool (decide (m.kind = 4))) fr rfl rfl (by first | decide | simp) (x_eql rfl (fr.ev rfl) rfl rfl) ?_
        clear fr a; intro a fr
        refine fx_val (v := .bool (decide (m.kind = 4))) fr rfl rfl (by first | decide | simp) (x_assign rfl (fr.ev rfl)) ?_
        clear fr a; intro a fr
        refine wpList_nil ?_
        refine fx_next ?_
        refine fx_cond fr rfl (fun hc16 => ?_) (fun hc16 => ?_)
        · skip
          have hc16 := of_decide_eq_true hc16
          refine wp_skip ?_
          refine fx_next ?_
          exact ⟨rfl, fr.sub ⟨rfl, rfl, rfl, by show look _ 52 = some (.bool (cacheK m.kind)); rw [show cacheK m.kind = decide (m.kind = 4) by simp [cacheK, hc6, hc12, hc16]]; rfl, trivial⟩⟩
        · skip
          have hc16 := of_decide_eq_false hc16
          refine wp_seq ?_
          refine wp_region_lit ?_  -- region 14
          refine fx_val (v := .bool (decide (m.kind = 5))) fr rfl rfl (by first | decide | simp) (x_eql rfl (fr.ev rfl) rfl rfl) ?_
          clear fr a; intro a fr
          refine fx_val (v := .bool (decide (m.kind = 5))) fr rfl rfl (by first | decide | simp) (x_assign rfl (fr.ev rfl)) ?_
          clear fr a; intro a fr
          refine wpList_nil ?_
          refine fx_next ?_
          refine fx_cond fr rfl (fun hc17 => ?_) (fun hc17 => ?_)
          · skip
            have hc17 := of_decide_eq_true hc17
            refine wp_skip ?_
            refine fx_next ?_
            exact ⟨rfl, fr.sub ⟨rfl, rfl, rfl, by show look _ 52 = some (.bool (cacheK m.kind)); rw [show cacheK m.kind = decide (m.kind = 5) by simp [cacheK, hc6, hc12, hc16, hc17]]; rfl, trivial⟩⟩
          · skip
            have hc17 := of_decide_eq_false hc17
            refine wp_seq ?_
            refine wp_region_lit ?_  -- region 15
            refine fx_val (v := .bool (decide (m.kind = 6))) fr rfl rfl (by first | decide | simp) (x_eql rfl (fr.ev rfl) rfl rfl) ?_
            clear fr a; intro a fr
            refine fx_val (v := .bool (decide (m.kind = 6))) fr rfl rfl (by first | decide | simp) (x_assign rfl (fr.ev rfl)) ?_
            clear fr a; intro a fr
            refine wpList_nil ?_
            refine fx_next ?_
            refine fx_cond fr rfl (fun hc18 => ?_) (fun hc18 => ?_)
            · skip
              have hc18 := of_decide_eq_true hc18
              refine wp_skip ?_
              refine fx_next ?_
              exact ⟨rfl, fr.sub ⟨rfl, rfl, rfl, by show look _ 52 = some (.bool (cacheK m.kind)); rw [show cacheK m.kind = decide (m.kind = 6) by simp [cacheK, hc6, hc12, hc16, hc17, hc18]]; rfl, trivial⟩⟩
            · skip
              have hc18 := of_decide_eq_false hc18
              refine wp_seq ?_
              refine wp_region_lit ?_  -- region 16
              refine fx_val (v := .bool (decide (m.kind = 7))) fr rfl rfl (by first | decide | simp) (x_eql rfl (fr.ev rfl) rfl rfl) ?_
              clear fr a; intro a fr
              refine fx_val (v := .bool (decide (m.kind = 7))) fr rfl rfl (by first | decide | simp) (x_assign rfl (fr.ev rfl)) ?_
              clear fr a; intro a fr
              refine wpList_nil ?_
              refine fx_next ?_
              refine fx_cond fr rfl (fun hc19 => ?_) (fun hc19 => ?_)
              · skip
                have hc19 := of_decide_eq_true hc19
                refine wp_skip ?_
                refine fx_next ?_
                exact ⟨rfl, fr.sub ⟨rfl, rfl, rfl, by show look _ 52 = some (.bool (cacheK m.kind)); rw [show cacheK m.kind = decide (m.kind = 7) by simp [cacheK, hc6, hc12, hc16, hc17, hc18, hc19]]; rfl, trivial⟩⟩
              · skip
                have hc19 := of_decide_eq_false hc19
                refine wp_seq ?_
                refine wp_region_lit ?_  -- region 17
                refine fx_val (v := .bool (decide (m.kind = 8))) fr rfl rfl (by first | decide | simp) (x_eql rfl (fr.ev rfl) rfl rfl) ?_
                clear fr a; intro a fr
                refine fx_val (v := .bool (decide (m.kind = 8))) fr rfl rfl (by first | decide | simp) (x_assign rfl (fr.ev rfl)) ?_
                clear fr a; intro a fr
                refine wpList_nil ?_
                refine fx_next ?_
                refine fx_cond fr rfl (fun hc20 => ?_) (fun hc20 => ?_)
                · skip
                  have hc20 := of_decide_eq_true hc20
                  refine wp_skip ?_
                  refine fx_next ?_
                  exact ⟨rfl, fr.sub ⟨rfl, rfl, rfl, by show look _ 52 = some (.bool (cacheK m.kind)); rw [show cacheK m.kind = decide (m.kind = 8) by simp [cacheK, hc6, hc12, hc16, hc17, hc18, hc19, hc20]]; rfl, trivial⟩⟩
                · skip
                  have hc20 := of_decide_eq_false hc20
                  refine wp_seq ?_
                  refine wp_region_lit ?_  -- region 18
                  refine fx_val (v := .bool (decide (m.kind = 9))) fr rfl rfl (by first | decide | simp) (x_eql rfl (fr.ev rfl) rfl rfl) ?_
                  clear fr a; intro a fr
                  refine fx_val (v := .bool (decide (m.kind = 9))) fr rfl rfl (by first | decide | simp) (x_assign rfl (fr.ev rfl)) ?_
                  clear fr a; intro a fr
                  refine wpList_nil ?_
                  refine fx_next ?_
                  refine fx_cond fr rfl (fun hc21 => ?_) (fun hc21 => ?_)
                  · skip
                    have hc21 := of_decide_eq_true hc21
                    refine wp_skip ?_
                    refine fx_next ?_
                    exact ⟨rfl, fr.sub ⟨rfl, rfl, rfl, by show look _ 52 = some (.bool (cacheK m.kind)); rw [show cacheK m.kind = decide (m.kind = 9) by simp [cacheK, hc6, hc12, hc16, hc17, hc18, hc19, hc20, hc21]]; rfl, trivial⟩⟩
                  · skip
                    have hc21 := of_decide_eq_false hc21
                    refine wp_region_lit ?_  -- region 19
                    refine fx_val (v := .bool (decide (m.kind = 10))) fr rfl rfl (by first | decide | simp) (x_eql rfl (fr.ev rfl) rfl rfl) ?_
                    clear fr a; intro a fr
                    refine fx_val (v := .bool (decide (m.kind = 10))) fr rfl rfl (by first | decide | simp) (x_assign rfl (fr.ev rfl)) ?_
                    clear fr a; intro a fr
                    refine wpList_nil ?_
                    refine fx_next ?_
                    exact ⟨rfl, fr.sub ⟨rfl, rfl, rfl, by show look _ 52 = some (.bool (cacheK m.kind)); rw [show cacheK m.kind = decide (m.kind = 10) by simp [cacheK, hc6, hc12, hc16, hc17, hc18, hc19, hc20, hc21]]; rfl, trivial⟩⟩
      clear fr a
      rintro a _ ⟨rfl, fr⟩
      refine fx_cond fr rfl (fun hc22 => ?_) (fun hc22 => ?_)
      · skip
        refine wp_seq ?_
        refine wp_region_lit ?_  -- region 20
        refine fx_val (v := .pointer (some ⟨b1, 1, none⟩)) fr rfl rfl (by first | decide | simp) (x_fieldAddr fo26_1 rfl (fr.ev rfl) rfl) ?_
        clear fr a; intro a fr
        refine fx_val (v := .int .i64 m.src) fr rfl rfl (by first | decide | simp) (x_load1 pl3 rfl (fr.ev rfl) (B4.cell 1 rfl)) ?_
        clear fr a; intro a fr
        refine fx_val (v := .bool (decide (m.src = 4))) fr rfl rfl (by first | decide | simp) (x_eql rfl (fr.ev rfl) rfl rfl) ?_
        clear fr a; intro a fr
        refine fx_val (v := .bool (decide (m.src = 4))) fr rfl rfl (by first | decide | simp) (x_move rfl (fr.ev rfl)) ?_
        clear fr a; intro a fr
        refine fx_may (g := (decide (m.src = 4))) (v := .pointer (some ⟨b1, 2, none⟩)) fr rfl rfl rfl (by simp) rfl (by first | decide | simp) (fun hg => x_fieldAddr fo26_2 rfl (fr.ev rfl) rfl) ?_
        clear fr a; intro a fr
        refine fx_may (g := (decide (m.src = 4))) (v := .int .i64 m.dst) fr rfl rfl rfl (by simp) rfl (by first | decide | simp) (fun hg => x_load1 pl3 rfl ((fr.ev rfl).trans (onlyIf_t hg)) (B4.cell 2 rfl)) ?_
        clear fr a; intro a fr
        rcases Bool.eq_false_or_eq_true (decide (m.src = 4)) with hc23 | hc23
        · skip
          rw [hc23] at fr
          have hc23 := of_decide_eq_true hc23
          refine fx_call fr (fr.want rfl rfl rfl) rfl (by first | decide | simp) (x_call (vs := [.int .i64 m.dst]) rfl rfl ⟨((fr.ev rfl).trans (onlyIf_t rfl)), trivial⟩ Try.func29 nm29 rfl) (cache_c m.dst _) ?_
          clear fr a
          rintro v _ ⟨rfl, rfl⟩ a fr
          refine fx_val (v := .bool (isCache m.dst)) fr rfl rfl (by first | decide | simp) (x_pick_t rfl (fr.ev rfl) (fr.ev rfl)) ?_
          clear fr a; intro a fr
          refine wpList_nil ?_
          refine fx_next ?_
          refine fx_cond fr rfl (fun hc26 => ?_) (fun hc26 => ?_)
          · skip
            refine wp_seq ?_
            refine wp_region_lit ?_  -- region 21
            refine fx_val (v := .int .i64 0) fr rfl rfl (by first | decide | simp) (x_assign rfl rfl) ?_
            clear fr a; intro a fr
            refine wpList_nil ?_
            refine fx_next ?_
            refine wp_ret ?_
            refine fx_rb ?_
            refine fx_rt ?_
            refine fx_ret fr [.tmp 2] [.int .i64 0] rfl ⟨rfl, trivial⟩ rfl ?_
            exact ⟨_, rfl, congrArg (Value.int .i64) (by have hx := home_not m.kind; clear fr; by_cases e1 : m.dst = 4 <;> by_cases e2 : m.src = 4 <;> simp_all [chk, goodMsg, bytesK]), hF⟩
          · skip
            refine wp_skip ?_
            refine fx_blk ?_
            refine fx_next ?_
            refine wp_seq ?_
            refine wp_region_lit ?_  -- region 22
            refine fx_val (v := .int .i64 2) fr rfl rfl (by first | decide | simp) (x_assign rfl rfl) ?_
            clear fr a; intro a fr
            refine wpList_nil ?_
            refine fx_next ?_
            refine wp_ret ?_
            refine fx_ret fr [.tmp 2] [.int .i64 2] rfl ⟨rfl, trivial⟩ rfl ?_
            exact ⟨_, rfl, congrArg (Value.int .i64) (by have hx := home_not m.kind; clear fr; by_cases e1 : m.dst = 4 <;> by_cases e2 : m.src = 4 <;> simp_all [chk, goodMsg, bytesK]), hF⟩
        · skip
          rw [hc23] at fr
          have hc23 := of_decide_eq_false hc23
          refine fx_skip fr (fr.unwant rfl rfl rfl (by decide)) rfl (by first | decide | simp) ?_
          clear fr a; intro a fr
          refine fx_val (v := .bool false) fr rfl rfl (by first | decide | simp) (x_pick_f rfl (fr.ev rfl) rfl) ?_
          clear fr a; intro a fr
          refine wpList_nil ?_
          refine fx_next ?_
          refine fx_cond_f fr rfl ?_
          refine wp_skip ?_
          refine fx_blk ?_
          refine fx_next ?_
          refine wp_seq ?_
          refine wp_region_lit ?_  -- region 22
          refine fx_val (v := .int .i64 2) fr rfl rfl (by first | decide | simp) (x_assign rfl rfl) ?_
          clear fr a; intro a fr
          refine wpList_nil ?_
          refine fx_next ?_
          refine wp_ret ?_
          refine fx_ret fr [.tmp 2] [.int .i64 2] rfl ⟨rfl, trivial⟩ rfl ?_
          exact ⟨_, rfl, congrArg (Value.int .i64) (by have hx := home_not m.kind; clear fr; by_cases e1 : m.dst = 4 <;> by_cases e2 : m.src = 4 <;> simp_all [chk, goodMsg, bytesK]), hF⟩
      · skip
        refine wp_skip ?_
        refine fx_blk ?_
        refine fx_next ?_
        refine wp_seq ?_
        refine wp_region_lit ?_  -- region 22
        refine fx_val (v := .int .i64 2) fr rfl rfl (by first | decide | simp) (x_assign rfl rfl) ?_
        clear fr a; intro a fr
        refine wpList_nil ?_
        refine fx_next ?_
        refine wp_ret ?_
        refine fx_ret fr [.tmp 2] [.int .i64 2] rfl ⟨rfl, trivial⟩ rfl ?_
        exact ⟨_, rfl, congrArg (Value.int .i64) (by have hx := home_not m.kind; clear fr; by_cases e1 : m.dst = 4 <;> by_cases e2 : m.src = 4 <;> simp_all [chk, goodMsg, bytesK]), hF⟩
set_option maxRecDepth 100000 in
set_option maxHeartbeats 4000000 in
theorem wants_c (w : World) : Calls Try.prog 28 #[] w (Ret fun v w' => ∃ r, v = .map (some r) ∧ w.heap.size ≤ r ∧ MapBlk w' r wantsEs 13 ∧ New w w') := by
  have hF := Only.refl (fun _ => False) w
  refine fx_enter Try.func28 rfl (N := (16, [])) (T := []) rfl (show 0 ≤ 16 by decide) trivial fun a fr => ?_
  refine wp_seq ?_
  refine wp_region_lit ?_  -- region 0
  refine fx_val (v := .map none) fr rfl rfl (by first | decide | simp) (x_assign rfl rfl) ?_
  clear fr a; intro a fr
  refine wpList_nil ?_
  refine fx_next ?_
  refine wp_seq ?_
  refine wp_region_lit ?_  -- region 1
  refine fx_makeMap fr rfl rfl rfl (by first | decide | simp) ?_
  clear fr a
  intro r1 w2 hN3 M4 hb5 a fr
  have g_r1 := Nat.le_trans hF.size hb5
  replace hF := hF.trNew hN3
  refine fx_val (v := .agg (#[.bool true, .bool false])) fr rfl rfl (by first | decide | simp) (x_build (cells := #[.bool true, .bool false]) rfl (by kernel_rfl)) ?_
  clear fr a; intro a fr
  refine fx_insert (es' := #[⟨.int .i64 1, .agg (#[.bool true, .bool false]), 0⟩]) Try.underlying68 Try.underlying22 rfl rfl rfl (fr.ev rfl) rfl (fr.ev rfl) M4 rfl rfl fun w6 hO7 hBq => ?_
  replace hF := hF.loc hO7 (.inr g_r1)
  replace M4 := hBq
  clear hBq
  refine fx_val (v := .agg (#[.bool true, .bool false])) fr rfl rfl (by first | decide | simp) (x_build (cells := #[.bool true, .bool false]) rfl (by kernel_rfl)) ?_
  clear fr a; intro a fr
  refine fx_insert (es' := #[⟨.int .i64 1, .agg (#[.bool true, .bool false]), 0⟩, ⟨.int .i64 2, .agg (#[.bool true, .bool false]), 1⟩]) Try.underlying68 Try.underlying22 rfl rfl rfl (fr.ev rfl) rfl (fr.ev rfl) M4 rfl rfl fun w8 hO9 hBq => ?_
  replace hF := hF.loc hO9 (.inr g_r1)
  replace M4 := hBq
  clear hBq
  refine fx_val (v := .agg (#[.bool true, .bool true])) fr rfl rfl (by first | decide | simp) (x_build (cells := #[.bool true, .bool true]) rfl (by kernel_rfl)) ?_
  clear fr a; intro a fr
  refine fx_insert (es' := #[⟨.int .i64 1, .agg (#[.bool true, .bool false]), 0⟩, ⟨.int .i64 2, .agg (#[.bool true, .bool false]), 1⟩, ⟨.int .i64 3, .agg (#[.bool true, .bool true]), 2⟩]) Try.underlying68 Try.underlying22 rfl rfl rfl (fr.ev rfl) rfl (fr.ev rfl) M4 rfl rfl fun w10 hO11 hBq => ?_
  replace hF := hF.loc hO11 (.inr g_r1)
  replace M4 := hBq
  clear hBq
  refine fx_val (v := .agg (#[.bool true, .bool true])) fr rfl rfl (by first | decide | simp) (x_build (cells := #[.bool true, .bool true]) rfl (by kernel_rfl)) ?_
  clear fr a; intro a fr
  refine fx_insert (es' := #[⟨.int .i64 1, .agg (#[.bool true, .bool false]), 0⟩, ⟨.int .i64 2, .agg (#[.bool true, .bool false]), 1⟩, ⟨.int .i64 3, .agg (#[.bool true, .bool true]), 2⟩, ⟨.int .i64 11, .agg (#[.bool true, .bool true]), 3⟩]) Try.underlying68 Try.underlying22 rfl rfl rfl (fr.ev rfl) rfl (fr.ev rfl) M4 rfl rfl fun w12 hO13 hBq => ?_
  replace hF := hF.loc hO13 (.inr g_r1)
  replace M4 := hBq
  clear hBq
  refine fx_val (v := .agg (#[.bool true, .bool false])) fr rfl rfl (by first | decide | simp) (x_build (cells := #[.bool true, .bool false]) rfl (by kernel_rfl)) ?_
  clear fr a; intro a fr
  refine fx_insert (es' := #[⟨.int .i64 1, .agg (#[.bool true, .bool false]), 0⟩, ⟨.int .i64 2, .agg (#[.bool true, .bool false]), 1⟩, ⟨.int .i64 3, .agg (#[.bool true, .bool true]), 2⟩, ⟨.int .i64 11, .agg (#[.bool true, .bool true]), 3⟩, ⟨.int .i64 12, .agg (#[.bool true, .bool false]), 4⟩]) Try.underlying68 Try.underlying22 rfl rfl rfl (fr.ev rfl) rfl (fr.ev rfl) M4 rfl rfl fun w14 hO15 hBq => ?_
  replace hF := hF.loc hO15 (.inr g_r1)
  replace M4 := hBq
  clear hBq
  refine fx_val (v := .agg (#[.bool true, .bool false])) fr rfl rfl (by first | decide | simp) (x_build (cells := #[.bool true, .bool false]) rfl (by kernel_rfl)) ?_
  clear fr a; intro a fr
  refine fx_insert (es' := #[⟨.int .i64 1, .agg (#[.bool true, .bool false]), 0⟩, ⟨.int .i64 2, .agg (#[.bool true, .bool false]), 1⟩, ⟨.int .i64 3, .agg (#[.bool true, .bool true]), 2⟩, ⟨.int .i64 11, .agg (#[.bool true, .bool true]), 3⟩, ⟨.int .i64 12, .agg (#[.bool true, .bool false]), 4⟩, ⟨.int .i64 13, .agg (#[.bool true, .bool false]), 5⟩]) Try.underlying68 Try.underlying22 rfl rfl rfl (fr.ev rfl) rfl (fr.ev rfl) M4 rfl rfl fun w16 hO17 hBq => ?_
  replace hF := hF.loc hO17 (.inr g_r1)
  replace M4 := hBq
  clear hBq
  refine fx_val (v := .agg (#[.bool false, .bool false])) fr rfl rfl (by first | decide | simp) (x_build (cells := #[.bool false, .bool false]) rfl (by kernel_rfl)) ?_
  clear fr a; intro a fr
  refine fx_insert (es' := #[⟨.int .i64 1, .agg (#[.bool true, .bool false]), 0⟩, ⟨.int .i64 2, .agg (#[.bool true, .bool false]), 1⟩, ⟨.int .i64 3, .agg (#[.bool true, .bool true]), 2⟩, ⟨.int .i64 11, .agg (#[.bool true, .bool true]), 3⟩, ⟨.int .i64 12, .agg (#[.bool true, .bool false]), 4⟩, ⟨.int .i64 13, .agg (#[.bool true, .bool false]), 5⟩, ⟨.int .i64 4, .agg (#[.bool false, .bool false]), 6⟩]) Try.underlying68 Try.underlying22 rfl rfl rfl (fr.ev rfl) rfl (fr.ev rfl) M4 rfl rfl fun w18 hO19 hBq => ?_
  replace hF := hF.loc hO19 (.inr g_r1)
  replace M4 := hBq
  clear hBq
  refine fx_val (v := .agg (#[.bool false, .bool false])) fr rfl rfl (by first | decide | simp) (x_build (cells := #[.bool false, .bool false]) rfl (by kernel_rfl)) ?_
  clear fr a; intro a fr
  refine fx_insert (es' := #[⟨.int .i64 1, .agg (#[.bool true, .bool false]), 0⟩, ⟨.int .i64 2, .agg (#[.bool true, .bool false]), 1⟩, ⟨.int .i64 3, .agg (#[.bool true, .bool true]), 2⟩, ⟨.int .i64 11, .agg (#[.bool true, .bool true]), 3⟩, ⟨.int .i64 12, .agg (#[.bool true, .bool false]), 4⟩, ⟨.int .i64 13, .agg (#[.bool true, .bool false]), 5⟩, ⟨.int .i64 4, .agg (#[.bool false, .bool false]), 6⟩, ⟨.int .i64 5, .agg (#[.bool false, .bool false]), 7⟩]) Try.underlying68 Try.underlying22 rfl rfl rfl (fr.ev rfl) rfl (fr.ev rfl) M4 rfl rfl fun w20 hO21 hBq => ?_
  replace hF := hF.loc hO21 (.inr g_r1)
  replace M4 := hBq
  clear hBq
  refine fx_val (v := .agg (#[.bool false, .bool false])) fr rfl rfl (by first | decide | simp) (x_build (cells := #[.bool false, .bool false]) rfl (by kernel_rfl)) ?_
  clear fr a; intro a fr
  refine fx_insert (es' := #[⟨.int .i64 1, .agg (#[.bool true, .bool false]), 0⟩, ⟨.int .i64 2, .agg (#[.bool true, .bool false]), 1⟩, ⟨.int .i64 3, .agg (#[.bool true, .bool true]), 2⟩, ⟨.int .i64 11, .agg (#[.bool true, .bool true]), 3⟩, ⟨.int .i64 12, .agg (#[.bool true, .bool false]), 4⟩, ⟨.int .i64 13, .agg (#[.bool true, .bool false]), 5⟩, ⟨.int .i64 4, .agg (#[.bool false, .bool false]), 6⟩, ⟨.int .i64 5, .agg (#[.bool false, .bool false]), 7⟩, ⟨.int .i64 6, .agg (#[.bool false, .bool false]), 8⟩]) Try.underlying68 Try.underlying22 rfl rfl rfl (fr.ev rfl) rfl (fr.ev rfl) M4 rfl rfl fun w22 hO23 hBq => ?_
  replace hF := hF.loc hO23 (.inr g_r1)
  replace M4 := hBq
  clear hBq
  refine fx_val (v := .agg (#[.bool false, .bool false])) fr rfl rfl (by first | decide | simp) (x_build (cells := #[.bool false, .bool false]) rfl (by kernel_rfl)) ?_
  clear fr a; intro a fr
  refine fx_insert (es' := #[⟨.int .i64 1, .agg (#[.bool true, .bool false]), 0⟩, ⟨.int .i64 2, .agg (#[.bool true, .bool false]), 1⟩, ⟨.int .i64 3, .agg (#[.bool true, .bool true]), 2⟩, ⟨.int .i64 11, .agg (#[.bool true, .bool true]), 3⟩, ⟨.int .i64 12, .agg (#[.bool true, .bool false]), 4⟩, ⟨.int .i64 13, .agg (#[.bool true, .bool false]), 5⟩, ⟨.int .i64 4, .agg (#[.bool false, .bool false]), 6⟩, ⟨.int .i64 5, .agg (#[.bool false, .bool false]), 7⟩, ⟨.int .i64 6, .agg (#[.bool false, .bool false]), 8⟩, ⟨.int .i64 7, .agg (#[.bool false, .bool false]), 9⟩]) Try.underlying68 Try.underlying22 rfl rfl rfl (fr.ev rfl) rfl (fr.ev rfl) M4 rfl rfl fun w24 hO25 hBq => ?_
  replace hF := hF.loc hO25 (.inr g_r1)
  replace M4 := hBq
  clear hBq
  refine fx_val (v := .agg (#[.bool false, .bool true])) fr rfl rfl (by first | decide | simp) (x_build (cells := #[.bool false, .bool true]) rfl (by kernel_rfl)) ?_
  clear fr a; intro a fr
  refine fx_insert (es' := #[⟨.int .i64 1, .agg (#[.bool true, .bool false]), 0⟩, ⟨.int .i64 2, .agg (#[.bool true, .bool false]), 1⟩, ⟨.int .i64 3, .agg (#[.bool true, .bool true]), 2⟩, ⟨.int .i64 11, .agg (#[.bool true, .bool true]), 3⟩, ⟨.int .i64 12, .agg (#[.bool true, .bool false]), 4⟩, ⟨.int .i64 13, .agg (#[.bool true, .bool false]), 5⟩, ⟨.int .i64 4, .agg (#[.bool false, .bool false]), 6⟩, ⟨.int .i64 5, .agg (#[.bool false, .bool false]), 7⟩, ⟨.int .i64 6, .agg (#[.bool false, .bool false]), 8⟩, ⟨.int .i64 7, .agg (#[.bool false, .bool false]), 9⟩, ⟨.int .i64 8, .agg (#[.bool false, .bool true]), 10⟩]) Try.underlying68 Try.underlying22 rfl rfl rfl (fr.ev rfl) rfl (fr.ev rfl) M4 rfl rfl fun w26 hO27 hBq => ?_
  replace hF := hF.loc hO27 (.inr g_r1)
  replace M4 := hBq
  clear hBq
  refine fx_val (v := .agg (#[.bool false, .bool true])) fr rfl rfl (by first | decide | simp) (x_build (cells := #[.bool false, .bool true]) rfl (by kernel_rfl)) ?_
  clear fr a; intro a fr
  refine fx_insert (es' := #[⟨.int .i64 1, .agg (#[.bool true, .bool false]), 0⟩, ⟨.int .i64 2, .agg (#[.bool true, .bool false]), 1⟩, ⟨.int .i64 3, .agg (#[.bool true, .bool true]), 2⟩, ⟨.int .i64 11, .agg (#[.bool true, .bool true]), 3⟩, ⟨.int .i64 12, .agg (#[.bool true, .bool false]), 4⟩, ⟨.int .i64 13, .agg (#[.bool true, .bool false]), 5⟩, ⟨.int .i64 4, .agg (#[.bool false, .bool false]), 6⟩, ⟨.int .i64 5, .agg (#[.bool false, .bool false]), 7⟩, ⟨.int .i64 6, .agg (#[.bool false, .bool false]), 8⟩, ⟨.int .i64 7, .agg (#[.bool false, .bool false]), 9⟩, ⟨.int .i64 8, .agg (#[.bool false, .bool true]), 10⟩, ⟨.int .i64 9, .agg (#[.bool false, .bool true]), 11⟩]) Try.underlying68 Try.underlying22 rfl rfl rfl (fr.ev rfl) rfl (fr.ev rfl) M4 rfl rfl fun w28 hO29 hBq => ?_
  replace hF := hF.loc hO29 (.inr g_r1)
  replace M4 := hBq
  clear hBq
  refine fx_val (v := .agg (#[.bool false, .bool true])) fr rfl rfl (by first | decide | simp) (x_build (cells := #[.bool false, .bool true]) rfl (by kernel_rfl)) ?_
  clear fr a; intro a fr
  refine fx_insert (es' := #[⟨.int .i64 1, .agg (#[.bool true, .bool false]), 0⟩, ⟨.int .i64 2, .agg (#[.bool true, .bool false]), 1⟩, ⟨.int .i64 3, .agg (#[.bool true, .bool true]), 2⟩, ⟨.int .i64 11, .agg (#[.bool true, .bool true]), 3⟩, ⟨.int .i64 12, .agg (#[.bool true, .bool false]), 4⟩, ⟨.int .i64 13, .agg (#[.bool true, .bool false]), 5⟩, ⟨.int .i64 4, .agg (#[.bool false, .bool false]), 6⟩, ⟨.int .i64 5, .agg (#[.bool false, .bool false]), 7⟩, ⟨.int .i64 6, .agg (#[.bool false, .bool false]), 8⟩, ⟨.int .i64 7, .agg (#[.bool false, .bool false]), 9⟩, ⟨.int .i64 8, .agg (#[.bool false, .bool true]), 10⟩, ⟨.int .i64 9, .agg (#[.bool false, .bool true]), 11⟩, ⟨.int .i64 10, .agg (#[.bool false, .bool true]), 12⟩]) Try.underlying68 Try.underlying22 rfl rfl rfl (fr.ev rfl) rfl (fr.ev rfl) M4 rfl rfl fun w30 hO31 hBq => ?_
  replace hF := hF.loc hO31 (.inr g_r1)
  replace M4 := hBq
  clear hBq
  refine fx_val (v := .map (some r1)) fr rfl rfl (by first | decide | simp) (x_move rfl (fr.ev rfl)) ?_
  clear fr a; intro a fr
  refine fx_val (v := .map (some r1)) fr rfl rfl (by first | decide | simp) (x_assign rfl (fr.ev rfl)) ?_
  clear fr a; intro a fr
  refine wpList_nil ?_
  refine fx_next ?_
  refine wp_ret ?_
  refine fx_ret fr [.tmp 0] [.map (some r1)] rfl ⟨rfl, trivial⟩ rfl ?_
  exact ⟨_, rfl, _, rfl, g_r1, M4, hF⟩
set_option maxRecDepth 100000 in
set_option maxHeartbeats 4000000 in
theorem chk_c (m : Msg) (w : World) : Calls Try.prog 11 #[.agg (msgE.arr m)] w (Ret fun v w' => v = .int .i64 (chk m) ∧ New w w') := by
  have hF := Only.refl (fun _ => False) w
  refine fx_enter Try.func11 rfl (N := (53, [])) (T := [(0, .agg (msgE.arr m))]) rfl (show 1 ≤ 53 by decide) ⟨rfl, trivial⟩ fun a fr => ?_
  refine wp_seq ?_
  refine wp_region_lit ?_  -- region 0
  refine fx_new fr rfl rfl (by first | decide | simp) (x_box (cs := msgE.arr m) rfl (fr.ev rfl) rfl) ?_
  clear fr a
  intro b1 w2 hN3 B4 hb5 a fr
  have g_b1 := Nat.le_trans hF.size hb5
  replace hF := hF.trNew hN3
  refine fx_val (v := .int .i64 0) fr rfl rfl (by first | decide | simp) (x_assign rfl rfl) ?_
  clear fr a; intro a fr
  refine wpList_nil ?_
  refine fx_next ?_
  refine wp_seq ?_
  refine fx_heldT (n := 9) (k := 9) (fun w => Blk w b1 26 (msgE.arr m) ∧ True) (by kernel_rfl) (by kernel_rfl) rfl ?_  -- region 1
  intro w6 hN7
  replace B4 := B4.new hN7
  replace hF := hF.trNew hN7
  refine fx_take (i := 1) (v := .pointer (some ⟨b1, 0, none⟩)) fr rfl (by kernel_rfl) rfl rfl (by first | decide | simp) (fun _ _ _ h => h) (fun _ ⟨B4, _⟩ => x_fieldAddr fo26_0 rfl (fr.ev rfl) rfl) ⟨B4, trivial⟩ ?_
  clear fr a; intro a fr
  refine fx_take (i := 2) (v := .int .i64 m.kind) fr rfl (by kernel_rfl) rfl rfl (by first | decide | simp) (fun _ _ _ h => h) (fun _ ⟨B4, _⟩ => x_load1 pl22 rfl (fr.ev rfl) (B4.cell 0 rfl)) ⟨B4, trivial⟩ ?_
  clear fr a; intro a fr
  refine fx_two (i := 0) (j := 7) (by kernel_rfl) (fx_op rfl ?_) (fx_op rfl ?_)
  · skip
    refine fx_call fr rfl rfl (by first | decide | simp) (x_call (vs := []) rfl rfl trivial Try.func28 nm28 rfl) (wants_c _) ?_
    clear fr a
    rintro v w11 ⟨r8, rfl, hr10, M9, hN12⟩ a fr
    have ne_b1_r8 : ¬ b1 = r8 := Nat.ne_of_lt (Nat.lt_of_lt_of_le B4.lt hr10)
    have g_r8 := Nat.le_trans hF.size hr10
    replace B4 := B4.new hN12
    replace hF := hF.trNew hN12
    refine wpList_nil ?_
    refine ⟨⟨B4, trivial⟩, ?_⟩
    refine fx_two (i := 3) (j := 7) (by kernel_rfl) (fx_op rfl ?_) (fx_op rfl ?_)
    · skip
      refine fx_val (v := .tuple #[.agg (#[.bool (homeK m.kind), .bool (bytesK m.kind)]), .bool (isK m.kind)]) fr rfl rfl (by first | decide | simp) (x_lookup (k := .i64) (ok := true) (v := .agg (#[.bool (homeK m.kind), .bool (bytesK m.kind)])) (b := (isK m.kind)) Try.underlying68 Try.underlying22 rfl (fr.ev rfl) (fr.ev rfl) M9 (z := .agg (#[.bool false, .bool false])) (by kernel_rfl) (wants_find _)) ?_
      clear fr a; intro a fr
      refine wpList_nil ?_
      refine ⟨⟨B4, trivial⟩, ?_⟩
      refine fx_take (i := 4) (v := .tuple #[.agg (#[.bool (homeK m.kind), .bool (bytesK m.kind)]), .bool (isK m.kind)]) fr rfl (by kernel_rfl) rfl rfl (by first | decide | simp) (fun _ _ _ h => h) (fun _ ⟨B4, _⟩ => x_move rfl (fr.ev rfl)) ⟨B4, trivial⟩ ?_
      clear fr a; intro a fr
      refine fx_take (i := 5) (v := .agg (#[.bool (homeK m.kind), .bool (bytesK m.kind)])) fr rfl (by kernel_rfl) rfl rfl (by first | decide | simp) (fun _ _ _ h => h) (fun _ ⟨B4, _⟩ => x_extract rfl (fr.ev rfl) rfl) ⟨B4, trivial⟩ ?_
      clear fr a; intro a fr
      refine fx_take (i := 6) (v := .bool (isK m.kind)) fr rfl (by kernel_rfl) rfl rfl (by first | decide | simp) (fun _ _ _ h => h) (fun _ ⟨B4, _⟩ => x_extract rfl (fr.ev rfl) rfl) ⟨B4, trivial⟩ ?_
      clear fr a; intro a fr
      refine fx_one (i := 7) (by kernel_rfl) (fx_op rfl ?_)
      refine fx_new fr rfl rfl (by first | decide | simp) (x_alloc (z := .agg (#[.bool false, .bool false])) (cs := #[.bool false, .bool false]) rfl (by kernel_rfl) rfl) ?_
      clear fr a
      intro b13 w14 hN15 B16 hb17 a fr
      have ne_b1_b13 : ¬ b1 = b13 := Nat.ne_of_lt (Nat.lt_of_lt_of_le B4.lt hb17)
      have ne_r8_b13 : ¬ r8 = b13 := Nat.ne_of_lt (Nat.lt_of_lt_of_le M9.lt hb17)
      have g_b13 := Nat.le_trans hF.size hb17
      replace B4 := B4.new hN15
      replace M9 := M9.new hN15
      replace hF := hF.trNew hN15
      refine wpList_nil ?_
      refine ⟨⟨B4, trivial⟩, ?_⟩
      refine fx_one (i := 8) (by kernel_rfl) (fx_op rfl ?_)
      refine fx_storeS sz66 rfl rfl rfl (fr.ev rfl) (fr.ev rfl) (by simp [Value.oneCell']) B16 rfl rfl fun w18 hO19 hBq => ?_
      replace B4 := B4.only hO19 (by show ¬ b1 = b13; omega)
      replace M9 := M9.only hO19 (by show ¬ r8 = b13; omega)
      replace hF := hF.loc hO19 (.inr g_b13)
      replace B16 := hBq
      clear hBq
      refine wpList_nil ?_
      refine ⟨⟨B4, trivial⟩, ?_⟩
      refine fx_hdone (by kernel_rfl) ?_
      refine fx_tail ?_
      refine fx_val (v := .bool (isK m.kind)) fr rfl rfl (by first | decide | simp) (x_assign rfl (fr.ev rfl)) ?_
      clear fr a; intro a fr
      refine wpList_nil ?_
      refine fx_next ?_
      refine wp_seq ?_
      refine wp_region_lit ?_  -- region 2
      refine fx_val (v := .pointer (some ⟨b1, 2, none⟩)) fr rfl rfl (by first | decide | simp) (x_fieldAddr fo26_2 rfl (fr.ev rfl) rfl) ?_
      clear fr a; intro a fr
      refine fx_val (v := .int .i64 m.dst) fr rfl rfl (by first | decide | simp) (x_load1 pl3 rfl (fr.ev rfl) (B4.cell 2 rfl)) ?_
      clear fr a; intro a fr
      refine fx_val (v := .int .i64 m.dst) fr rfl rfl (by first | decide | simp) (x_assign rfl (fr.ev rfl)) ?_
      clear fr a; intro a fr
      refine wpList_nil ?_
      refine fx_next ?_
      refine wp_seq ?_
      refine wp_block ?_
      refine wp_seq ?_
      refine wp_block ?_
      refine wp_seq ?_
      refine wp_block ?_
      refine wp_seq ?_
      refine wp_block ?_
      refine wp_seq ?_
      refine wp_seq ?_
      refine wp_seq ?_
      refine wp_region_lit ?_  -- region 3
      refine fx_val (v := .bool (isK m.kind)) fr rfl rfl (by first | decide | simp) (x_move rfl (fr.ev rfl)) ?_
      clear fr a; intro a fr
      refine fx_val (v := .bool (!(isK m.kind))) fr rfl rfl (by first | decide | simp) (x_not rfl (fr.ev rfl) rfl) ?_
      clear fr a; intro a fr
      refine fx_val (v := .bool (!(isK m.kind))) fr rfl rfl (by first | decide | simp) (x_assign rfl (fr.ev rfl)) ?_
      clear fr a; intro a fr
      refine wpList_nil ?_
      refine fx_next ?_
      refine fx_cond fr rfl (fun hc20 => ?_) (fun hc20 => ?_)
      · skip
        refine wp_exit ?_
        refine fx_xt ?_
        refine fx_xt ?_
        refine fx_xx ?_
        refine fx_next ?_
        refine wp_seq ?_
        refine wp_seq ?_
        refine wp_region_lit ?_  -- region 5
        refine fx_val (v := .int .i64 2) fr rfl rfl (by first | decide | simp) (x_assign rfl rfl) ?_
        clear fr a; intro a fr
        refine wpList_nil ?_
        refine fx_next ?_
        refine wp_ret ?_
        refine fx_rt ?_
        refine fx_rb ?_
        refine fx_rt ?_
        refine fx_rb ?_
        refine fx_rt ?_
        refine fx_rb ?_
        refine fx_rt ?_
        refine fx_ret fr [.tmp 2] [.int .i64 2] rfl ⟨rfl, trivial⟩ rfl ?_
        exact ⟨_, rfl, congrArg (Value.int .i64) (by have hx := home_not m.kind; have hk := isK_iff m.kind; clear fr; by_cases e1 : m.dst = 4 <;> by_cases e2 : m.src = 4 <;> simp_all [chk, goodMsg, isCache] <;> first | omega | (intro p q; rcases ‹(_ ∨ _) ∨ _› with (h | h) | h <;> first | omega | exact h)), hF⟩
      · skip
        refine wp_skip ?_
        refine fx_next ?_
        refine wp_seq ?_
        refine wp_region_lit ?_  -- region 4
        refine fx_val (v := .pointer (some ⟨b13, 0, none⟩)) fr rfl rfl (by first | decide | simp) (x_fieldAddr fo66_0 rfl (fr.ev rfl) rfl) ?_
        clear fr a; intro a fr
        refine fx_val (v := .bool (homeK m.kind)) fr rfl rfl (by first | decide | simp) (x_load1 pl4 rfl (fr.ev rfl) (B16.cell 0 rfl)) ?_
        clear fr a; intro a fr
        refine fx_val (v := .bool (homeK m.kind)) fr rfl rfl (by first | decide | simp) (x_assign rfl (fr.ev rfl)) ?_
        clear fr a; intro a fr
        refine wpList_nil ?_
        refine fx_next ?_
        refine fx_cond fr rfl (fun hc21 => ?_) (fun hc21 => ?_)
        · skip
          refine wp_exit ?_
          refine fx_xt ?_
          refine fx_xb (by decide) ?_
          refine fx_xt ?_
          refine fx_xx ?_
          refine fx_next ?_
          refine wp_seq ?_
          refine wp_seq ?_
          refine wp_region_lit ?_  -- region 6
          refine fx_val (v := .pointer (some ⟨b1, 2, none⟩)) fr rfl rfl (by first | decide | simp) (x_fieldAddr fo26_2 rfl (fr.ev rfl) rfl) ?_
          clear fr a; intro a fr
          refine fx_val (v := .int .i64 m.dst) fr rfl rfl (by first | decide | simp) (x_load1 pl3 rfl (fr.ev rfl) (B4.cell 2 rfl)) ?_
          clear fr a; intro a fr
          refine fx_val (v := .bool (decide (m.dst ≠ 4))) fr rfl rfl (by first | decide | simp) (x_neq rfl (fr.ev rfl) rfl rfl) ?_
          clear fr a; intro a fr
          refine wpList_nil ?_
          refine fx_next ?_
          refine fx_cond fr rfl (fun hc22 => ?_) (fun hc22 => ?_)
          · skip
            have hc22 := of_decide_eq_true hc22
            refine wp_seq ?_
            refine wp_region_lit ?_  -- region 7
            refine fx_val (v := .int .i64 2) fr rfl rfl (by first | decide | simp) (x_assign rfl rfl) ?_
            clear fr a; intro a fr
            refine wpList_nil ?_
            refine fx_next ?_
            refine wp_ret ?_
            refine fx_rt ?_
            refine fx_rb ?_
            refine fx_rt ?_
            refine fx_rb ?_
            refine fx_rt ?_
            refine fx_ret fr [.tmp 2] [.int .i64 2] rfl ⟨rfl, trivial⟩ rfl ?_
            exact ⟨_, rfl, congrArg (Value.int .i64) (by have hx := home_not m.kind; have hk := isK_iff m.kind; clear fr; by_cases e1 : m.dst = 4 <;> by_cases e2 : m.src = 4 <;> simp_all [chk, goodMsg, isCache] <;> first | omega | (intro p q; rcases ‹(_ ∨ _) ∨ _› with (h | h) | h <;> first | omega | exact h)), hF⟩
          · skip
            have hc22 := of_decide_eq_false hc22
            refine wp_skip ?_
            refine fx_next ?_
            refine wp_region_lit ?_  -- region 8
            refine fx_val (v := .pointer (some ⟨b1, 1, none⟩)) fr rfl rfl (by first | decide | simp) (x_fieldAddr fo26_1 rfl (fr.ev rfl) rfl) ?_
            clear fr a; intro a fr
            refine fx_val (v := .int .i64 m.src) fr rfl rfl (by first | decide | simp) (x_load1 pl3 rfl (fr.ev rfl) (B4.cell 1 rfl)) ?_
            clear fr a; intro a fr
            refine fx_val (v := .int .i64 m.src) fr rfl rfl (by first | decide | simp) (x_assign rfl (fr.ev rfl)) ?_
            clear fr a; intro a fr
            refine wpList_nil ?_
            refine fx_blk ?_
            refine fx_next ?_
            refine wp_seq ?_
            refine wp_seq ?_
            refine wp_region_lit ?_  -- region 9
            refine fx_val (v := .pointer (some ⟨b13, 0, none⟩)) fr rfl rfl (by first | decide | simp) (x_fieldAddr fo66_0 rfl (fr.ev rfl) rfl) ?_
            clear fr a; intro a fr
            refine fx_val (v := .bool (homeK m.kind)) fr rfl rfl (by first | decide | simp) (x_load1 pl4 rfl (fr.ev rfl) (B16.cell 0 rfl)) ?_
            clear fr a; intro a fr
            refine fx_val (v := .bool (!(homeK m.kind))) fr rfl rfl (by first | decide | simp) (x_not rfl (fr.ev rfl) rfl) ?_
            clear fr a; intro a fr
            refine fx_val (v := .bool (!(homeK m.kind))) fr rfl rfl (by first | decide | simp) (x_move rfl (fr.ev rfl)) ?_
            clear fr a; intro a fr
            refine fx_may (g := (!(homeK m.kind))) (v := .pointer (some ⟨b1, 1, none⟩)) fr rfl rfl rfl (by simp) rfl (by first | decide | simp) (fun hg => x_fieldAddr fo26_1 rfl (fr.ev rfl) rfl) ?_
            clear fr a; intro a fr
            refine fx_may (g := (!(homeK m.kind))) (v := .int .i64 m.src) fr rfl rfl rfl (by simp) rfl (by first | decide | simp) (fun hg => x_load1 pl3 rfl ((fr.ev rfl).trans (onlyIf_t hg)) (B4.cell 1 rfl)) ?_
            clear fr a; intro a fr
            refine fx_may (g := (!(homeK m.kind))) (v := .bool (decide (m.src ≠ 4))) fr rfl rfl rfl (by simp) rfl (by first | decide | simp) (fun hg => x_neq rfl ((fr.ev rfl).trans (onlyIf_t hg)) rfl rfl) ?_
            clear fr a; intro a fr
            refine fx_val (v := .bool ((!(homeK m.kind)) && (decide (m.src ≠ 4)))) fr rfl rfl (by first | decide | simp) (x_pick_and rfl (fr.ev rfl) (fun hb => ((fr.ev rfl)).trans (onlyIf_t (by simp_all))) (fun _ => rfl) rfl) ?_
            clear fr a; intro a fr
            refine fx_val (v := .bool ((!(homeK m.kind)) && (decide (m.src ≠ 4)))) fr rfl rfl (by first | decide | simp) (x_move rfl (fr.ev rfl)) ?_
            clear fr a; intro a fr
            refine fx_may (g := !((!(homeK m.kind)) && (decide (m.src ≠ 4)))) (v := .int .i64 m.src) fr rfl rfl rfl (by simp) rfl (by first | decide | simp) (fun hg => x_move rfl (fr.ev rfl)) ?_
            clear fr a; intro a fr
            refine fx_may (g := !((!(homeK m.kind)) && (decide (m.src ≠ 4)))) (v := .bool (decide (m.src < 0))) fr rfl rfl rfl (by simp) rfl (by first | decide | simp) (fun hg => x_lss rfl ((fr.ev rfl).trans (onlyIf_t hg)) rfl rfl) ?_
            clear fr a; intro a fr
            refine fx_val (v := .bool (((!(homeK m.kind)) && (decide (m.src ≠ 4))) || (decide (m.src < 0)))) fr rfl rfl (by first | decide | simp) (x_pick_or rfl (fr.ev rfl) (fun _ => rfl) (fun hb => ((fr.ev rfl)).trans (onlyIf_t (by simp_all))) rfl) ?_
            clear fr a; intro a fr
            refine fx_val (v := .bool (((!(homeK m.kind)) && (decide (m.src ≠ 4))) || (decide (m.src < 0)))) fr rfl rfl (by first | decide | simp) (x_move rfl (fr.ev rfl)) ?_
            clear fr a; intro a fr
            refine fx_may (g := !(((!(homeK m.kind)) && (decide (m.src ≠ 4))) || (decide (m.src < 0)))) (v := .int .i64 m.src) fr rfl rfl rfl (by simp) rfl (by first | decide | simp) (fun hg => x_move rfl (fr.ev rfl)) ?_
            clear fr a; intro a fr
            refine fx_may (g := !(((!(homeK m.kind)) && (decide (m.src ≠ 4))) || (decide (m.src < 0)))) (v := .bool (decide (4 ≤ m.src))) fr rfl rfl rfl (by simp) rfl (by first | decide | simp) (fun hg => x_geq rfl ((fr.ev rfl).trans (onlyIf_t hg)) rfl rfl) ?_
            clear fr a; intro a fr
            refine fx_val (v := .bool ((((!(homeK m.kind)) && (decide (m.src ≠ 4))) || (decide (m.src < 0))) || (decide (4 ≤ m.src)))) fr rfl rfl (by first | decide | simp) (x_pick_or rfl (fr.ev rfl) (fun _ => rfl) (fun hb => ((fr.ev rfl)).trans (onlyIf_t (by simp_all))) rfl) ?_
            clear fr a; intro a fr
            refine fx_val (v := .bool ((((!(homeK m.kind)) && (decide (m.src ≠ 4))) || (decide (m.src < 0))) || (decide (4 ≤ m.src)))) fr rfl rfl (by first | decide | simp) (x_move rfl (fr.ev rfl)) ?_
            clear fr a; intro a fr
            refine fx_may (g := !((((!(homeK m.kind)) && (decide (m.src ≠ 4))) || (decide (m.src < 0))) || (decide (4 ≤ m.src)))) (v := .pointer (some ⟨b13, 1, none⟩)) fr rfl rfl rfl (by simp) rfl (by first | decide | simp) (fun hg => x_fieldAddr fo66_1 rfl (fr.ev rfl) rfl) ?_
            clear fr a; intro a fr
            refine fx_may (g := !((((!(homeK m.kind)) && (decide (m.src ≠ 4))) || (decide (m.src < 0))) || (decide (4 ≤ m.src)))) (v := .bool (bytesK m.kind)) fr rfl rfl rfl (by simp) rfl (by first | decide | simp) (fun hg => x_load1 pl4 rfl ((fr.ev rfl).trans (onlyIf_t hg)) (B16.cell 1 rfl)) ?_
            clear fr a; intro a fr
            refine fx_may (g := !((((!(homeK m.kind)) && (decide (m.src ≠ 4))) || (decide (m.src < 0))) || (decide (4 ≤ m.src)))) (v := .bool (!(bytesK m.kind))) fr rfl rfl rfl (by simp) rfl (by first | decide | simp) (fun hg => x_not rfl ((fr.ev rfl).trans (onlyIf_t hg)) rfl) ?_
            clear fr a; intro a fr
            refine fx_may (g := !((((!(homeK m.kind)) && (decide (m.src ≠ 4))) || (decide (m.src < 0))) || (decide (4 ≤ m.src)))) (v := .bool (!(bytesK m.kind))) fr rfl rfl rfl (by simp) rfl (by first | decide | simp) (fun hg => x_move rfl ((fr.ev rfl).trans (onlyIf_t hg))) ?_
            clear fr a; intro a fr
            refine fx_may2 (g := (!((((!(homeK m.kind)) && (decide (m.src ≠ 4))) || (decide (m.src < 0))) || (decide (4 ≤ m.src)))) && (!(bytesK m.kind))) (v := .pointer (some ⟨b1, 4, none⟩)) fr rfl rfl rfl (by simp) rfl (by first | decide | simp) (fun hg => x_fieldAddr fo26_4 rfl (fr.ev rfl) rfl) ?_
            clear fr a; intro a fr
            refine fx_may2 (g := (!((((!(homeK m.kind)) && (decide (m.src ≠ 4))) || (decide (m.src < 0))) || (decide (4 ≤ m.src)))) && (!(bytesK m.kind))) (v := .agg (bsE.arr m.bs)) fr rfl rfl rfl (by simp) rfl (by first | decide | simp) (fun hg => x_loadE (E := bsE) ag24 rfl rfl ((fr.ev rfl).trans (onlyIf_t hg)) (B4.part (msg_bs _))) ?_
            clear fr a; intro a fr
            refine fx_may2 (g := (!((((!(homeK m.kind)) && (decide (m.src ≠ 4))) || (decide (m.src < 0))) || (decide (4 ≤ m.src)))) && (!(bytesK m.kind))) (v := .agg (bsE.arr bs0)) fr rfl rfl rfl (by simp) rfl (by first | decide | simp) (fun hg => x_build (cells := bsE.arr bs0) rfl (by kernel_rfl)) ?_
            clear fr a; intro a fr
            refine fx_may2 (g := (!((((!(homeK m.kind)) && (decide (m.src ≠ 4))) || (decide (m.src < 0))) || (decide (4 ≤ m.src)))) && (!(bytesK m.kind))) (v := .bool (!decide (m.bs = bs0))) fr rfl rfl rfl (by simp) rfl (by first | decide | simp) (fun hg => x_neE bsER rfl rfl ((fr.ev rfl).trans (onlyIf_t hg)) ((fr.ev rfl).trans (onlyIf_t hg)) rfl) ?_
            clear fr a; intro a fr
            refine fx_may (g := !((((!(homeK m.kind)) && (decide (m.src ≠ 4))) || (decide (m.src < 0))) || (decide (4 ≤ m.src)))) (v := .bool ((!(bytesK m.kind)) && (!decide (m.bs = bs0)))) fr rfl rfl rfl (by simp) rfl (by first | decide | simp) (fun hg => x_pick_and rfl ((fr.ev rfl).trans (onlyIf_t hg)) (fun hb => ((fr.ev rfl)).trans (onlyIf_t (by simp_all))) (fun _ => rfl) rfl) ?_
            clear fr a; intro a fr
            refine fx_val (v := .bool (((((!(homeK m.kind)) && (decide (m.src ≠ 4))) || (decide (m.src < 0))) || (decide (4 ≤ m.src))) || ((!(bytesK m.kind)) && (!decide (m.bs = bs0))))) fr rfl rfl (by first | decide | simp) (x_pick_or rfl (fr.ev rfl) (fun _ => rfl) (fun hb => ((fr.ev rfl)).trans (onlyIf_t (by simp_all))) rfl) ?_
            clear fr a; intro a fr
            refine wpList_nil ?_
            refine fx_next ?_
            refine fx_cond fr rfl (fun hc23 => ?_) (fun hc23 => ?_)
            · skip
              refine wp_seq ?_
              refine wp_region_lit ?_  -- region 10
              refine fx_val (v := .int .i64 2) fr rfl rfl (by first | decide | simp) (x_assign rfl rfl) ?_
              clear fr a; intro a fr
              refine wpList_nil ?_
              refine fx_next ?_
              refine wp_ret ?_
              refine fx_rt ?_
              refine fx_rb ?_
              refine fx_rt ?_
              refine fx_ret fr [.tmp 2] [.int .i64 2] rfl ⟨rfl, trivial⟩ rfl ?_
              exact ⟨_, rfl, congrArg (Value.int .i64) (by have hx := home_not m.kind; have hk := isK_iff m.kind; clear fr; by_cases e1 : m.dst = 4 <;> by_cases e2 : m.src = 4 <;> simp_all [chk, goodMsg, isCache] <;> first | omega | (intro p q; rcases ‹(_ ∨ _) ∨ _› with (h | h) | h <;> first | omega | exact h)), hF⟩
            · skip
              refine wp_skip ?_
              refine fx_next ?_
              refine wp_exit ?_
              refine fx_xx ?_
              refine fx_next ?_
              refine wp_seq ?_
              refine wp_region_lit ?_  -- region 11
              refine fx_val (v := .int .i64 0) fr rfl rfl (by first | decide | simp) (x_assign rfl rfl) ?_
              clear fr a; intro a fr
              refine wpList_nil ?_
              refine fx_next ?_
              refine wp_ret ?_
              refine fx_ret fr [.tmp 2] [.int .i64 0] rfl ⟨rfl, trivial⟩ rfl ?_
              exact ⟨_, rfl, congrArg (Value.int .i64) (by have hx := home_not m.kind; have hk := isK_iff m.kind; clear fr; by_cases e1 : m.dst = 4 <;> by_cases e2 : m.src = 4 <;> simp_all [chk, goodMsg, isCache] <;> first | omega | (intro p q; rcases ‹(_ ∨ _) ∨ _› with (h | h) | h <;> first | omega | exact h)), hF⟩
        · skip
          refine wp_skip ?_
          refine fx_next ?_
          refine wp_exit ?_
          refine fx_xb (by decide) ?_
          refine fx_xt ?_
          refine fx_xb (by decide) ?_
          refine fx_xt ?_
          refine fx_xx ?_
          refine fx_next ?_
          refine wp_seq ?_
          refine wp_seq ?_
          refine wp_region_lit ?_  -- region 9
          refine fx_val (v := .pointer (some ⟨b13, 0, none⟩)) fr rfl rfl (by first | decide | simp) (x_fieldAddr fo66_0 rfl (fr.ev rfl) rfl) ?_
          clear fr a; intro a fr
          refine fx_val (v := .bool (homeK m.kind)) fr rfl rfl (by first | decide | simp) (x_load1 pl4 rfl (fr.ev rfl) (B16.cell 0 rfl)) ?_
          clear fr a; intro a fr
          refine fx_val (v := .bool (!(homeK m.kind))) fr rfl rfl (by first | decide | simp) (x_not rfl (fr.ev rfl) rfl) ?_
          clear fr a; intro a fr
          refine fx_val (v := .bool (!(homeK m.kind))) fr rfl rfl (by first | decide | simp) (x_move rfl (fr.ev rfl)) ?_
          clear fr a; intro a fr
          refine fx_may (g := (!(homeK m.kind))) (v := .pointer (some ⟨b1, 1, none⟩)) fr rfl rfl rfl (by simp) rfl (by first | decide | simp) (fun hg => x_fieldAddr fo26_1 rfl (fr.ev rfl) rfl) ?_
          clear fr a; intro a fr
          refine fx_may (g := (!(homeK m.kind))) (v := .int .i64 m.src) fr rfl rfl rfl (by simp) rfl (by first | decide | simp) (fun hg => x_load1 pl3 rfl ((fr.ev rfl).trans (onlyIf_t hg)) (B4.cell 1 rfl)) ?_
          clear fr a; intro a fr
          refine fx_may (g := (!(homeK m.kind))) (v := .bool (decide (m.src ≠ 4))) fr rfl rfl rfl (by simp) rfl (by first | decide | simp) (fun hg => x_neq rfl ((fr.ev rfl).trans (onlyIf_t hg)) rfl rfl) ?_
          clear fr a; intro a fr
          refine fx_val (v := .bool ((!(homeK m.kind)) && (decide (m.src ≠ 4)))) fr rfl rfl (by first | decide | simp) (x_pick_and rfl (fr.ev rfl) (fun hb => ((fr.ev rfl)).trans (onlyIf_t (by simp_all))) (fun _ => rfl) rfl) ?_
          clear fr a; intro a fr
          refine fx_val (v := .bool ((!(homeK m.kind)) && (decide (m.src ≠ 4)))) fr rfl rfl (by first | decide | simp) (x_move rfl (fr.ev rfl)) ?_
          clear fr a; intro a fr
          refine fx_may (g := !((!(homeK m.kind)) && (decide (m.src ≠ 4)))) (v := .int .i64 m.dst) fr rfl rfl rfl (by simp) rfl (by first | decide | simp) (fun hg => x_move rfl (fr.ev rfl)) ?_
          clear fr a; intro a fr
          refine fx_may (g := !((!(homeK m.kind)) && (decide (m.src ≠ 4)))) (v := .bool (decide (m.dst < 0))) fr rfl rfl rfl (by simp) rfl (by first | decide | simp) (fun hg => x_lss rfl ((fr.ev rfl).trans (onlyIf_t hg)) rfl rfl) ?_
          clear fr a; intro a fr
          refine fx_val (v := .bool (((!(homeK m.kind)) && (decide (m.src ≠ 4))) || (decide (m.dst < 0)))) fr rfl rfl (by first | decide | simp) (x_pick_or rfl (fr.ev rfl) (fun _ => rfl) (fun hb => ((fr.ev rfl)).trans (onlyIf_t (by simp_all))) rfl) ?_
          clear fr a; intro a fr
          refine fx_val (v := .bool (((!(homeK m.kind)) && (decide (m.src ≠ 4))) || (decide (m.dst < 0)))) fr rfl rfl (by first | decide | simp) (x_move rfl (fr.ev rfl)) ?_
          clear fr a; intro a fr
          refine fx_may (g := !(((!(homeK m.kind)) && (decide (m.src ≠ 4))) || (decide (m.dst < 0)))) (v := .int .i64 m.dst) fr rfl rfl rfl (by simp) rfl (by first | decide | simp) (fun hg => x_move rfl (fr.ev rfl)) ?_
          clear fr a; intro a fr
          refine fx_may (g := !(((!(homeK m.kind)) && (decide (m.src ≠ 4))) || (decide (m.dst < 0)))) (v := .bool (decide (4 ≤ m.dst))) fr rfl rfl rfl (by simp) rfl (by first | decide | simp) (fun hg => x_geq rfl ((fr.ev rfl).trans (onlyIf_t hg)) rfl rfl) ?_
          clear fr a; intro a fr
          refine fx_val (v := .bool ((((!(homeK m.kind)) && (decide (m.src ≠ 4))) || (decide (m.dst < 0))) || (decide (4 ≤ m.dst)))) fr rfl rfl (by first | decide | simp) (x_pick_or rfl (fr.ev rfl) (fun _ => rfl) (fun hb => ((fr.ev rfl)).trans (onlyIf_t (by simp_all))) rfl) ?_
          clear fr a; intro a fr
          refine fx_val (v := .bool ((((!(homeK m.kind)) && (decide (m.src ≠ 4))) || (decide (m.dst < 0))) || (decide (4 ≤ m.dst)))) fr rfl rfl (by first | decide | simp) (x_move rfl (fr.ev rfl)) ?_
          clear fr a; intro a fr
          refine fx_may (g := !((((!(homeK m.kind)) && (decide (m.src ≠ 4))) || (decide (m.dst < 0))) || (decide (4 ≤ m.dst)))) (v := .pointer (some ⟨b13, 1, none⟩)) fr rfl rfl rfl (by simp) rfl (by first | decide | simp) (fun hg => x_fieldAddr fo66_1 rfl (fr.ev rfl) rfl) ?_
          clear fr a; intro a fr
          refine fx_may (g := !((((!(homeK m.kind)) && (decide (m.src ≠ 4))) || (decide (m.dst < 0))) || (decide (4 ≤ m.dst)))) (v := .bool (bytesK m.kind)) fr rfl rfl rfl (by simp) rfl (by first | decide | simp) (fun hg => x_load1 pl4 rfl ((fr.ev rfl).trans (onlyIf_t hg)) (B16.cell 1 rfl)) ?_
          clear fr a; intro a fr
          refine fx_may (g := !((((!(homeK m.kind)) && (decide (m.src ≠ 4))) || (decide (m.dst < 0))) || (decide (4 ≤ m.dst)))) (v := .bool (!(bytesK m.kind))) fr rfl rfl rfl (by simp) rfl (by first | decide | simp) (fun hg => x_not rfl ((fr.ev rfl).trans (onlyIf_t hg)) rfl) ?_
          clear fr a; intro a fr
          refine fx_may (g := !((((!(homeK m.kind)) && (decide (m.src ≠ 4))) || (decide (m.dst < 0))) || (decide (4 ≤ m.dst)))) (v := .bool (!(bytesK m.kind))) fr rfl rfl rfl (by simp) rfl (by first | decide | simp) (fun hg => x_move rfl ((fr.ev rfl).trans (onlyIf_t hg))) ?_
          clear fr a; intro a fr
          refine fx_may2 (g := (!((((!(homeK m.kind)) && (decide (m.src ≠ 4))) || (decide (m.dst < 0))) || (decide (4 ≤ m.dst)))) && (!(bytesK m.kind))) (v := .pointer (some ⟨b1, 4, none⟩)) fr rfl rfl rfl (by simp) rfl (by first | decide | simp) (fun hg => x_fieldAddr fo26_4 rfl (fr.ev rfl) rfl) ?_
          clear fr a; intro a fr
          refine fx_may2 (g := (!((((!(homeK m.kind)) && (decide (m.src ≠ 4))) || (decide (m.dst < 0))) || (decide (4 ≤ m.dst)))) && (!(bytesK m.kind))) (v := .agg (bsE.arr m.bs)) fr rfl rfl rfl (by simp) rfl (by first | decide | simp) (fun hg => x_loadE (E := bsE) ag24 rfl rfl ((fr.ev rfl).trans (onlyIf_t hg)) (B4.part (msg_bs _))) ?_
          clear fr a; intro a fr
          refine fx_may2 (g := (!((((!(homeK m.kind)) && (decide (m.src ≠ 4))) || (decide (m.dst < 0))) || (decide (4 ≤ m.dst)))) && (!(bytesK m.kind))) (v := .agg (bsE.arr bs0)) fr rfl rfl rfl (by simp) rfl (by first | decide | simp) (fun hg => x_build (cells := bsE.arr bs0) rfl (by kernel_rfl)) ?_
          clear fr a; intro a fr
          refine fx_may2 (g := (!((((!(homeK m.kind)) && (decide (m.src ≠ 4))) || (decide (m.dst < 0))) || (decide (4 ≤ m.dst)))) && (!(bytesK m.kind))) (v := .bool (!decide (m.bs = bs0))) fr rfl rfl rfl (by simp) rfl (by first | decide | simp) (fun hg => x_neE bsER rfl rfl ((fr.ev rfl).trans (onlyIf_t hg)) ((fr.ev rfl).trans (onlyIf_t hg)) rfl) ?_
          clear fr a; intro a fr
          refine fx_may (g := !((((!(homeK m.kind)) && (decide (m.src ≠ 4))) || (decide (m.dst < 0))) || (decide (4 ≤ m.dst)))) (v := .bool ((!(bytesK m.kind)) && (!decide (m.bs = bs0)))) fr rfl rfl rfl (by simp) rfl (by first | decide | simp) (fun hg => x_pick_and rfl ((fr.ev rfl).trans (onlyIf_t hg)) (fun hb => ((fr.ev rfl)).trans (onlyIf_t (by simp_all))) (fun _ => rfl) rfl) ?_
          clear fr a; intro a fr
          refine fx_val (v := .bool (((((!(homeK m.kind)) && (decide (m.src ≠ 4))) || (decide (m.dst < 0))) || (decide (4 ≤ m.dst))) || ((!(bytesK m.kind)) && (!decide (m.bs = bs0))))) fr rfl rfl (by first | decide | simp) (x_pick_or rfl (fr.ev rfl) (fun _ => rfl) (fun hb => ((fr.ev rfl)).trans (onlyIf_t (by simp_all))) rfl) ?_
          clear fr a; intro a fr
          refine wpList_nil ?_
          refine fx_next ?_
          refine fx_cond fr rfl (fun hc24 => ?_) (fun hc24 => ?_)
          · skip
            refine wp_seq ?_
            refine wp_region_lit ?_  -- region 10
            refine fx_val (v := .int .i64 2) fr rfl rfl (by first | decide | simp) (x_assign rfl rfl) ?_
            clear fr a; intro a fr
            refine wpList_nil ?_
            refine fx_next ?_
            refine wp_ret ?_
            refine fx_rt ?_
            refine fx_rb ?_
            refine fx_rt ?_
            refine fx_ret fr [.tmp 2] [.int .i64 2] rfl ⟨rfl, trivial⟩ rfl ?_
            exact ⟨_, rfl, congrArg (Value.int .i64) (by have hx := home_not m.kind; have hk := isK_iff m.kind; clear fr; by_cases e1 : m.dst = 4 <;> by_cases e2 : m.src = 4 <;> simp_all [chk, goodMsg, isCache] <;> first | omega | (intro p q; rcases ‹(_ ∨ _) ∨ _› with (h | h) | h <;> first | omega | exact h)), hF⟩
          · skip
            refine wp_skip ?_
            refine fx_next ?_
            refine wp_exit ?_
            refine fx_xx ?_
            refine fx_next ?_
            refine wp_seq ?_
            refine wp_region_lit ?_  -- region 11
            refine fx_val (v := .int .i64 0) fr rfl rfl (by first | decide | simp) (x_assign rfl rfl) ?_
            clear fr a; intro a fr
            refine wpList_nil ?_
            refine fx_next ?_
            refine wp_ret ?_
            refine fx_ret fr [.tmp 2] [.int .i64 0] rfl ⟨rfl, trivial⟩ rfl ?_
            exact ⟨_, rfl, congrArg (Value.int .i64) (by have hx := home_not m.kind; have hk := isK_iff m.kind; clear fr; by_cases e1 : m.dst = 4 <;> by_cases e2 : m.src = 4 <;> simp_all [chk, goodMsg, isCache] <;> first | omega | (intro p q; rcases ‹(_ ∨ _) ∨ _› with (h | h) | h <;> first | omega | exact h)), hF⟩
    · skip
      refine fx_new fr rfl rfl (by first | decide | simp) (x_alloc (z := .agg (#[.bool false, .bool false])) (cs := #[.bool false, .bool false]) rfl (by kernel_rfl) rfl) ?_
      clear fr a
      intro b25 w26 hN27 B28 hb29 a fr
      have ne_b1_b25 : ¬ b1 = b25 := Nat.ne_of_lt (Nat.lt_of_lt_of_le B4.lt hb29)
      have ne_r8_b25 : ¬ r8 = b25 := Nat.ne_of_lt (Nat.lt_of_lt_of_le M9.lt hb29)
      have g_b25 := Nat.le_trans hF.size hb29
      replace B4 := B4.new hN27
      replace M9 := M9.new hN27
      replace hF := hF.trNew hN27
      refine wpList_nil ?_
      refine ⟨⟨B4, trivial⟩, ?_⟩
      refine fx_one (i := 3) (by kernel_rfl) (fx_op rfl ?_)
      refine fx_val (v := .tuple #[.agg (#[.bool (homeK m.kind), .bool (bytesK m.kind)]), .bool (isK m.kind)]) fr rfl rfl (by first | decide | simp) (x_lookup (k := .i64) (ok := true) (v := .agg (#[.bool (homeK m.kind), .bool (bytesK m.kind)])) (b := (isK m.kind)) Try.underlying68 Try.underlying22 rfl (fr.ev rfl) (fr.ev rfl) M9 (z := .agg (#[.bool false, .bool false])) (by kernel_rfl) (wants_find _)) ?_
      clear fr a; intro a fr
      refine wpList_nil ?_
      refine ⟨⟨B4, trivial⟩, ?_⟩
      refine fx_take (i := 4) (v := .tuple #[.agg (#[.bool (homeK m.kind), .bool (bytesK m.kind)]), .bool (isK m.kind)]) fr rfl (by kernel_rfl) rfl rfl (by first | decide | simp) (fun _ _ _ h => h) (fun _ ⟨B4, _⟩ => x_move rfl (fr.ev rfl)) ⟨B4, trivial⟩ ?_
      clear fr a; intro a fr
      refine fx_take (i := 5) (v := .agg (#[.bool (homeK m.kind), .bool (bytesK m.kind)])) fr rfl (by kernel_rfl) rfl rfl (by first | decide | simp) (fun _ _ _ h => h) (fun _ ⟨B4, _⟩ => x_extract rfl (fr.ev rfl) rfl) ⟨B4, trivial⟩ ?_
      clear fr a; intro a fr
      refine fx_take (i := 6) (v := .bool (isK m.kind)) fr rfl (by kernel_rfl) rfl rfl (by first | decide | simp) (fun _ _ _ h => h) (fun _ ⟨B4, _⟩ => x_extract rfl (fr.ev rfl) rfl) ⟨B4, trivial⟩ ?_
      clear fr a; intro a fr
      refine fx_one (i := 8) (by kernel_rfl) (fx_op rfl ?_)
      refine fx_storeS sz66 rfl rfl rfl (fr.ev rfl) (fr.ev rfl) (by simp [Value.oneCell']) B28 rfl rfl fun w30 hO31 hBq => ?_
      replace B4 := B4.only hO31 (by show ¬ b1 = b25; omega)
      replace M9 := M9.only hO31 (by show ¬ r8 = b25; omega)
      replace hF := hF.loc hO31 (.inr g_b25)
      replace B28 := hBq
      clear hBq
      refine wpList_nil ?_
      refine ⟨⟨B4, trivial⟩, ?_⟩
      refine fx_hdone (by kernel_rfl) ?_
      refine fx_tail ?_
      refine fx_val (v := .bool (isK m.kind)) fr rfl rfl (by first | decide | simp) (x_assign rfl (fr.ev rfl)) ?_
      clear fr a; intro a fr
      refine wpList_nil ?_
      refine fx_next ?_
      refine wp_seq ?_
      refine wp_region_lit ?_  -- region 2
      refine fx_val (v := .pointer (some ⟨b1, 2, none⟩)) fr rfl rfl (by first | decide | simp) (x_fieldAddr fo26_2 rfl (fr.ev rfl) rfl) ?_
      clear fr a; intro a fr
      refine fx_val (v := .int .i64 m.dst) fr rfl rfl (by first | decide | simp) (x_load1 pl3 rfl (fr.ev rfl) (B4.cell 2 rfl)) ?_
      clear fr a; intro a fr
      refine fx_val (v := .int .i64 m.dst) fr rfl rfl (by first | decide | simp) (x_assign rfl (fr.ev rfl)) ?_
      clear fr a; intro a fr
      refine wpList_nil ?_
      refine fx_next ?_
      refine wp_seq ?_
      refine wp_block ?_
      refine wp_seq ?_
      refine wp_block ?_
      refine wp_seq ?_
      refine wp_block ?_
      refine wp_seq ?_
      refine wp_block ?_
      refine wp_seq ?_
      refine wp_seq ?_
      refine wp_seq ?_
      refine wp_region_lit ?_  -- region 3
      refine fx_val (v := .bool (isK m.kind)) fr rfl rfl (by first | decide | simp) (x_move rfl (fr.ev rfl)) ?_
      clear fr a; intro a fr
      refine fx_val (v := .bool (!(isK m.kind))) fr rfl rfl (by first | decide | simp) (x_not rfl (fr.ev rfl) rfl) ?_
      clear fr a; intro a fr
      refine fx_val (v := .bool (!(isK m.kind))) fr rfl rfl (by first | decide | simp) (x_assign rfl (fr.ev rfl)) ?_
      clear fr a; intro a fr
      refine wpList_nil ?_
      refine fx_next ?_
      refine fx_cond fr rfl (fun hc32 => ?_) (fun hc32 => ?_)
      · skip
        refine wp_exit ?_
        refine fx_xt ?_
        refine fx_xt ?_
        refine fx_xx ?_
        refine fx_next ?_
        refine wp_seq ?_
        refine wp_seq ?_
        refine wp_region_lit ?_  -- region 5
        refine fx_val (v := .int .i64 2) fr rfl rfl (by first | decide | simp) (x_assign rfl rfl) ?_
        clear fr a; intro a fr
        refine wpList_nil ?_
        refine fx_next ?_
        refine wp_ret ?_
        refine fx_rt ?_
        refine fx_rb ?_
        refine fx_rt ?_
        refine fx_rb ?_
        refine fx_rt ?_
        refine fx_rb ?_
        refine fx_rt ?_
        refine fx_ret fr [.tmp 2] [.int .i64 2] rfl ⟨rfl, trivial⟩ rfl ?_
        exact ⟨_, rfl, congrArg (Value.int .i64) (by have hx := home_not m.kind; have hk := isK_iff m.kind; clear fr; by_cases e1 : m.dst = 4 <;> by_cases e2 : m.src = 4 <;> simp_all [chk, goodMsg, isCache] <;> first | omega | (intro p q; rcases ‹(_ ∨ _) ∨ _› with (h | h) | h <;> first | omega | exact h)), hF⟩
      · skip
        refine wp_skip ?_
        refine fx_next ?_
        refine wp_seq ?_
        refine wp_region_lit ?_  -- region 4
        refine fx_val (v := .pointer (some ⟨b25, 0, none⟩)) fr rfl rfl (by first | decide | simp) (x_fieldAddr fo66_0 rfl (fr.ev rfl) rfl) ?_
        clear fr a; intro a fr
        refine fx_val (v := .bool (homeK m.kind)) fr rfl rfl (by first | decide | simp) (x_load1 pl4 rfl (fr.ev rfl) (B28.cell 0 rfl)) ?_
        clear fr a; intro a fr
        refine fx_val (v := .bool (homeK m.kind)) fr rfl rfl (by first | decide | simp) (x_assign rfl (fr.ev rfl)) ?_
        clear fr a; intro a fr
        refine wpList_nil ?_
        refine fx_next ?_
        refine fx_cond fr rfl (fun hc33 => ?_) (fun hc33 => ?_)
        · skip
          refine wp_exit ?_
          refine fx_xt ?_
          refine fx_xb (by decide) ?_
          refine fx_xt ?_
          refine fx_xx ?_
          refine fx_next ?_
          refine wp_seq ?_
          refine wp_seq ?_
          refine wp_region_lit ?_  -- region 6
          refine fx_val (v := .pointer (some ⟨b1, 2, none⟩)) fr rfl rfl (by first | decide | simp) (x_fieldAddr fo26_2 rfl (fr.ev rfl) rfl) ?_
          clear fr a; intro a fr
          refine fx_val (v := .int .i64 m.dst) fr rfl rfl (by first | decide | simp) (x_load1 pl3 rfl (fr.ev rfl) (B4.cell 2 rfl)) ?_
          clear fr a; intro a fr
          refine fx_val (v := .bool (decide (m.dst ≠ 4))) fr rfl rfl (by first | decide | simp) (x_neq rfl (fr.ev rfl) rfl rfl) ?_
          clear fr a; intro a fr
          refine wpList_nil ?_
          refine fx_next ?_
          refine fx_cond fr rfl (fun hc34 => ?_) (fun hc34 => ?_)
          · skip
            have hc34 := of_decide_eq_true hc34
            refine wp_seq ?_
            refine wp_region_lit ?_  -- region 7
            refine fx_val (v := .int .i64 2) fr rfl rfl (by first | decide | simp) (x_assign rfl rfl) ?_
            clear fr a; intro a fr
            refine wpList_nil ?_
            refine fx_next ?_
            refine wp_ret ?_
            refine fx_rt ?_
            refine fx_rb ?_
            refine fx_rt ?_
            refine fx_rb ?_
            refine fx_rt ?_
            refine fx_ret fr [.tmp 2] [.int .i64 2] rfl ⟨rfl, trivial⟩ rfl ?_
            exact ⟨_, rfl, congrArg (Value.int .i64) (by have hx := home_not m.kind; have hk := isK_iff m.kind; clear fr; by_cases e1 : m.dst = 4 <;> by_cases e2 : m.src = 4 <;> simp_all [chk, goodMsg, isCache] <;> first | omega | (intro p q; rcases ‹(_ ∨ _) ∨ _› with (h | h) | h <;> first | omega | exact h)), hF⟩
          · skip
            have hc34 := of_decide_eq_false hc34
            refine wp_skip ?_
            refine fx_next ?_
            refine wp_region_lit ?_  -- region 8
            refine fx_val (v := .pointer (some ⟨b1, 1, none⟩)) fr rfl rfl (by first | decide | simp) (x_fieldAddr fo26_1 rfl (fr.ev rfl) rfl) ?_
            clear fr a; intro a fr
            refine fx_val (v := .int .i64 m.src) fr rfl rfl (by first | decide | simp) (x_load1 pl3 rfl (fr.ev rfl) (B4.cell 1 rfl)) ?_
            clear fr a; intro a fr
            refine fx_val (v := .int .i64 m.src) fr rfl rfl (by first | decide | simp) (x_assign rfl (fr.ev rfl)) ?_
            clear fr a; intro a fr
            refine wpList_nil ?_
            refine fx_blk ?_
            refine fx_next ?_
            refine wp_seq ?_
            refine wp_seq ?_
            refine wp_region_lit ?_  -- region 9
            refine fx_val (v := .pointer (some ⟨b25, 0, none⟩)) fr rfl rfl (by first | decide | simp) (x_fieldAddr fo66_0 rfl (fr.ev rfl) rfl) ?_
            clear fr a; intro a fr
            refine fx_val (v := .bool (homeK m.kind)) fr rfl rfl (by first | decide | simp) (x_load1 pl4 rfl (fr.ev rfl) (B28.cell 0 rfl)) ?_
            clear fr a; intro a fr
            refine fx_val (v := .bool (!(homeK m.kind))) fr rfl rfl (by first | decide | simp) (x_not rfl (fr.ev rfl) rfl) ?_
            clear fr a; intro a fr
            refine fx_val (v := .bool (!(homeK m.kind))) fr rfl rfl (by first | decide | simp) (x_move rfl (fr.ev rfl)) ?_
            clear fr a; intro a fr
            refine fx_may (g := (!(homeK m.kind))) (v := .pointer (some ⟨b1, 1, none⟩)) fr rfl rfl rfl (by simp) rfl (by first | decide | simp) (fun hg => x_fieldAddr fo26_1 rfl (fr.ev rfl) rfl) ?_
            clear fr a; intro a fr
            refine fx_may (g := (!(homeK m.kind))) (v := .int .i64 m.src) fr rfl rfl rfl (by simp) rfl (by first | decide | simp) (fun hg => x_load1 pl3 rfl ((fr.ev rfl).trans (onlyIf_t hg)) (B4.cell 1 rfl)) ?_
            clear fr a; intro a fr
            refine fx_may (g := (!(homeK m.kind))) (v := .bool (decide (m.src ≠ 4))) fr rfl rfl rfl (by simp) rfl (by first | decide | simp) (fun hg => x_neq rfl ((fr.ev rfl).trans (onlyIf_t hg)) rfl rfl) ?_
            clear fr a; intro a fr
            refine fx_val (v := .bool ((!(homeK m.kind)) && (decide (m.src ≠ 4)))) fr rfl rfl (by first | decide | simp) (x_pick_and rfl (fr.ev rfl) (fun hb => ((fr.ev rfl)).trans (onlyIf_t (by simp_all))) (fun _ => rfl) rfl) ?_
            clear fr a; intro a fr
            refine fx_val (v := .bool ((!(homeK m.kind)) && (decide (m.src ≠ 4)))) fr rfl rfl (by first | decide | simp) (x_move rfl (fr.ev rfl)) ?_
            clear fr a; intro a fr
            refine fx_may (g := !((!(homeK m.kind)) && (decide (m.src ≠ 4)))) (v := .int .i64 m.src) fr rfl rfl rfl (by simp) rfl (by first | decide | simp) (fun hg => x_move rfl (fr.ev rfl)) ?_
            clear fr a; intro a fr
            refine fx_may (g := !((!(homeK m.kind)) && (decide (m.src ≠ 4)))) (v := .bool (decide (m.src < 0))) fr rfl rfl rfl (by simp) rfl (by first | decide | simp) (fun hg => x_lss rfl ((fr.ev rfl).trans (onlyIf_t hg)) rfl rfl) ?_
            clear fr a; intro a fr
            refine fx_val (v := .bool (((!(homeK m.kind)) && (decide (m.src ≠ 4))) || (decide (m.src < 0)))) fr rfl rfl (by first | decide | simp) (x_pick_or rfl (fr.ev rfl) (fun _ => rfl) (fun hb => ((fr.ev rfl)).trans (onlyIf_t (by simp_all))) rfl) ?_
            clear fr a; intro a fr
            refine fx_val (v := .bool (((!(homeK m.kind)) && (decide (m.src ≠ 4))) || (decide (m.src < 0)))) fr rfl rfl (by first | decide | simp) (x_move rfl (fr.ev rfl)) ?_
            clear fr a; intro a fr
            refine fx_may (g := !(((!(homeK m.kind)) && (decide (m.src ≠ 4))) || (decide (m.src < 0)))) (v := .int .i64 m.src) fr rfl rfl rfl (by simp) rfl (by first | decide | simp) (fun hg => x_move rfl (fr.ev rfl)) ?_
            clear fr a; intro a fr
            refine fx_may (g := !(((!(homeK m.kind)) && (decide (m.src ≠ 4))) || (decide (m.src < 0)))) (v := .bool (decide (4 ≤ m.src))) fr rfl rfl rfl (by simp) rfl (by first | decide | simp) (fun hg => x_geq rfl ((fr.ev rfl).trans (onlyIf_t hg)) rfl rfl) ?_
            clear fr a; intro a fr
            refine fx_val (v := .bool ((((!(homeK m.kind)) && (decide (m.src ≠ 4))) || (decide (m.src < 0))) || (decide (4 ≤ m.src)))) fr rfl rfl (by first | decide | simp) (x_pick_or rfl (fr.ev rfl) (fun _ => rfl) (fun hb => ((fr.ev rfl)).trans (onlyIf_t (by simp_all))) rfl) ?_
            clear fr a; intro a fr
            refine fx_val (v := .bool ((((!(homeK m.kind)) && (decide (m.src ≠ 4))) || (decide (m.src < 0))) || (decide (4 ≤ m.src)))) fr rfl rfl (by first | decide | simp) (x_move rfl (fr.ev rfl)) ?_
            clear fr a; intro a fr
            refine fx_may (g := !((((!(homeK m.kind)) && (decide (m.src ≠ 4))) || (decide (m.src < 0))) || (decide (4 ≤ m.src)))) (v := .pointer (some ⟨b25, 1, none⟩)) fr rfl rfl rfl (by simp) rfl (by first | decide | simp) (fun hg => x_fieldAddr fo66_1 rfl (fr.ev rfl) rfl) ?_
            clear fr a; intro a fr
            refine fx_may (g := !((((!(homeK m.kind)) && (decide (m.src ≠ 4))) || (decide (m.src < 0))) || (decide (4 ≤ m.src)))) (v := .bool (bytesK m.kind)) fr rfl rfl rfl (by simp) rfl (by first | decide | simp) (fun hg => x_load1 pl4 rfl ((fr.ev rfl).trans (onlyIf_t hg)) (B28.cell 1 rfl)) ?_
            clear fr a; intro a fr
            refine fx_may (g := !((((!(homeK m.kind)) && (decide (m.src ≠ 4))) || (decide (m.src < 0))) || (decide (4 ≤ m.src)))) (v := .bool (!(bytesK m.kind))) fr rfl rfl rfl (by simp) rfl (by first | decide | simp) (fun hg => x_not rfl ((fr.ev rfl).trans (onlyIf_t hg)) rfl) ?_
            clear fr a; intro a fr
            refine fx_may (g := !((((!(homeK m.kind)) && (decide (m.src ≠ 4))) || (decide (m.src < 0))) || (decide (4 ≤ m.src)))) (v := .bool (!(bytesK m.kind))) fr rfl rfl rfl (by simp) rfl (by first | decide | simp) (fun hg => x_move rfl ((fr.ev rfl).trans (onlyIf_t hg))) ?_
            clear fr a; intro a fr
            refine fx_may2 (g := (!((((!(homeK m.kind)) && (decide (m.src ≠ 4))) || (decide (m.src < 0))) || (decide (4 ≤ m.src)))) && (!(bytesK m.kind))) (v := .pointer (some ⟨b1, 4, none⟩)) fr rfl rfl rfl (by simp) rfl (by first | decide | simp) (fun hg => x_fieldAddr fo26_4 rfl (fr.ev rfl) rfl) ?_
            clear fr a; intro a fr
            refine fx_may2 (g := (!((((!(homeK m.kind)) && (decide (m.src ≠ 4))) || (decide (m.src < 0))) || (decide (4 ≤ m.src)))) && (!(bytesK m.kind))) (v := .agg (bsE.arr m.bs)) fr rfl rfl rfl (by simp) rfl (by first | decide | simp) (fun hg => x_loadE (E := bsE) ag24 rfl rfl ((fr.ev rfl).trans (onlyIf_t hg)) (B4.part (msg_bs _))) ?_
            clear fr a; intro a fr
            refine fx_may2 (g := (!((((!(homeK m.kind)) && (decide (m.src ≠ 4))) || (decide (m.src < 0))) || (decide (4 ≤ m.src)))) && (!(bytesK m.kind))) (v := .agg (bsE.arr bs0)) fr rfl rfl rfl (by simp) rfl (by first | decide | simp) (fun hg => x_build (cells := bsE.arr bs0) rfl (by kernel_rfl)) ?_
            clear fr a; intro a fr
            refine fx_may2 (g := (!((((!(homeK m.kind)) && (decide (m.src ≠ 4))) || (decide (m.src < 0))) || (decide (4 ≤ m.src)))) && (!(bytesK m.kind))) (v := .bool (!decide (m.bs = bs0))) fr rfl rfl rfl (by simp) rfl (by first | decide | simp) (fun hg => x_neE bsER rfl rfl ((fr.ev rfl).trans (onlyIf_t hg)) ((fr.ev rfl).trans (onlyIf_t hg)) rfl) ?_
            clear fr a; intro a fr
            refine fx_may (g := !((((!(homeK m.kind)) && (decide (m.src ≠ 4))) || (decide (m.src < 0))) || (decide (4 ≤ m.src)))) (v := .bool ((!(bytesK m.kind)) && (!decide (m.bs = bs0)))) fr rfl rfl rfl (by simp) rfl (by first | decide | simp) (fun hg => x_pick_and rfl ((fr.ev rfl).trans (onlyIf_t hg)) (fun hb => ((fr.ev rfl)).trans (onlyIf_t (by simp_all))) (fun _ => rfl) rfl) ?_
            clear fr a; intro a fr
            refine fx_val (v := .bool (((((!(homeK m.kind)) && (decide (m.src ≠ 4))) || (decide (m.src < 0))) || (decide (4 ≤ m.src))) || ((!(bytesK m.kind)) && (!decide (m.bs = bs0))))) fr rfl rfl (by first | decide | simp) (x_pick_or rfl (fr.ev rfl) (fun _ => rfl) (fun hb => ((fr.ev rfl)).trans (onlyIf_t (by simp_all))) rfl) ?_
            clear fr a; intro a fr
            refine wpList_nil ?_
            refine fx_next ?_
            refine fx_cond fr rfl (fun hc35 => ?_) (fun hc35 => ?_)
            · skip
              refine wp_seq ?_
              refine wp_region_lit ?_  -- region 10
              refine fx_val (v := .int .i64 2) fr rfl rfl (by first | decide | simp) (x_assign rfl rfl) ?_
              clear fr a; intro a fr
              refine wpList_nil ?_
              refine fx_next ?_
              refine wp_ret ?_
              refine fx_rt ?_
              refine fx_rb ?_
              refine fx_rt ?_
              refine fx_ret fr [.tmp 2] [.int .i64 2] rfl ⟨rfl, trivial⟩ rfl ?_
              exact ⟨_, rfl, congrArg (Value.int .i64) (by have hx := home_not m.kind; have hk := isK_iff m.kind; clear fr; by_cases e1 : m.dst = 4 <;> by_cases e2 : m.src = 4 <;> simp_all [chk, goodMsg, isCache] <;> first | omega | (intro p q; rcases ‹(_ ∨ _) ∨ _› with (h | h) | h <;> first | omega | exact h)), hF⟩
            · skip
              refine wp_skip ?_
              refine fx_next ?_
              refine wp_exit ?_
              refine fx_xx ?_
              refine fx_next ?_
              refine wp_seq ?_
              refine wp_region_lit ?_  -- region 11
              refine fx_val (v := .int .i64 0) fr rfl rfl (by first | decide | simp) (x_assign rfl rfl) ?_
              clear fr a; intro a fr
              refine wpList_nil ?_
              refine fx_next ?_
              refine wp_ret ?_
              refine fx_ret fr [.tmp 2] [.int .i64 0] rfl ⟨rfl, trivial⟩ rfl ?_
              exact ⟨_, rfl, congrArg (Value.int .i64) (by have hx := home_not m.kind; have hk := isK_iff m.kind; clear fr; by_cases e1 : m.dst = 4 <;> by_cases e2 : m.src = 4 <;> simp_all [chk, goodMsg, isCache] <;> first | omega | (intro p q; rcases ‹(_ ∨ _) ∨ _› with (h | h) | h <;> first | omega | exact h)), hF⟩
        · skip
          refine wp_skip ?_
          refine fx_next ?_
          refine wp_exit ?_
          refine fx_xb (by decide) ?_
          refine fx_xt ?_
          refine fx_xb (by decide) ?_
          refine fx_xt ?_
          refine fx_xx ?_
          refine fx_next ?_
          refine wp_seq ?_
          refine wp_seq ?_
          refine wp_region_lit ?_  -- region 9
          refine fx_val (v := .pointer (some ⟨b25, 0, none⟩)) fr rfl rfl (by first | decide | simp) (x_fieldAddr fo66_0 rfl (fr.ev rfl) rfl) ?_
          clear fr a; intro a fr
          refine fx_val (v := .bool (homeK m.kind)) fr rfl rfl (by first | decide | simp) (x_load1 pl4 rfl (fr.ev rfl) (B28.cell 0 rfl)) ?_
          clear fr a; intro a fr
          refine fx_val (v := .bool (!(homeK m.kind))) fr rfl rfl (by first | decide | simp) (x_not rfl (fr.ev rfl) rfl) ?_
          clear fr a; intro a fr
          refine fx_val (v := .bool (!(homeK m.kind))) fr rfl rfl (by first | decide | simp) (x_move rfl (fr.ev rfl)) ?_
          clear fr a; intro a fr
          refine fx_may (g := (!(homeK m.kind))) (v := .pointer (some ⟨b1, 1, none⟩)) fr rfl rfl rfl (by simp) rfl (by first | decide | simp) (fun hg => x_fieldAddr fo26_1 rfl (fr.ev rfl) rfl) ?_
          clear fr a; intro a fr
          refine fx_may (g := (!(homeK m.kind))) (v := .int .i64 m.src) fr rfl rfl rfl (by simp) rfl (by first | decide | simp) (fun hg => x_load1 pl3 rfl ((fr.ev rfl).trans (onlyIf_t hg)) (B4.cell 1 rfl)) ?_
          clear fr a; intro a fr
          refine fx_may (g := (!(homeK m.kind))) (v := .bool (decide (m.src ≠ 4))) fr rfl rfl rfl (by simp) rfl (by first | decide | simp) (fun hg => x_neq rfl ((fr.ev rfl).trans (onlyIf_t hg)) rfl rfl) ?_
          clear fr a; intro a fr
          refine fx_val (v := .bool ((!(homeK m.kind)) && (decide (m.src ≠ 4)))) fr rfl rfl (by first | decide | simp) (x_pick_and rfl (fr.ev rfl) (fun hb => ((fr.ev rfl)).trans (onlyIf_t (by simp_all))) (fun _ => rfl) rfl) ?_
          clear fr a; intro a fr
          refine fx_val (v := .bool ((!(homeK m.kind)) && (decide (m.src ≠ 4)))) fr rfl rfl (by first | decide | simp) (x_move rfl (fr.ev rfl)) ?_
          clear fr a; intro a fr
          refine fx_may (g := !((!(homeK m.kind)) && (decide (m.src ≠ 4)))) (v := .int .i64 m.dst) fr rfl rfl rfl (by simp) rfl (by first | decide | simp) (fun hg => x_move rfl (fr.ev rfl)) ?_
          clear fr a; intro a fr
          refine fx_may (g := !((!(homeK m.kind)) && (decide (m.src ≠ 4)))) (v := .bool (decide (m.dst < 0))) fr rfl rfl rfl (by simp) rfl (by first | decide | simp) (fun hg => x_lss rfl ((fr.ev rfl).trans (onlyIf_t hg)) rfl rfl) ?_
          clear fr a; intro a fr
          refine fx_val (v := .bool (((!(homeK m.kind)) && (decide (m.src ≠ 4))) || (decide (m.dst < 0)))) fr rfl rfl (by first | decide | simp) (x_pick_or rfl (fr.ev rfl) (fun _ => rfl) (fun hb => ((fr.ev rfl)).trans (onlyIf_t (by simp_all))) rfl) ?_
          clear fr a; intro a fr
          refine fx_val (v := .bool (((!(homeK m.kind)) && (decide (m.src ≠ 4))) || (decide (m.dst < 0)))) fr rfl rfl (by first | decide | simp) (x_move rfl (fr.ev rfl)) ?_
          clear fr a; intro a fr
          refine fx_may (g := !(((!(homeK m.kind)) && (decide (m.src ≠ 4))) || (decide (m.dst < 0)))) (v := .int .i64 m.dst) fr rfl rfl rfl (by simp) rfl (by first | decide | simp) (fun hg => x_move rfl (fr.ev rfl)) ?_
          clear fr a; intro a fr
          refine fx_may (g := !(((!(homeK m.kind)) && (decide (m.src ≠ 4))) || (decide (m.dst < 0)))) (v := .bool (decide (4 ≤ m.dst))) fr rfl rfl rfl (by simp) rfl (by first | decide | simp) (fun hg => x_geq rfl ((fr.ev rfl).trans (onlyIf_t hg)) rfl rfl) ?_
          clear fr a; intro a fr
          refine fx_val (v := .bool ((((!(homeK m.kind)) && (decide (m.src ≠ 4))) || (decide (m.dst < 0))) || (decide (4 ≤ m.dst)))) fr rfl rfl (by first | decide | simp) (x_pick_or rfl (fr.ev rfl) (fun _ => rfl) (fun hb => ((fr.ev rfl)).trans (onlyIf_t (by simp_all))) rfl) ?_
          clear fr a; intro a fr
          refine fx_val (v := .bool ((((!(homeK m.kind)) && (decide (m.src ≠ 4))) || (decide (m.dst < 0))) || (decide (4 ≤ m.dst)))) fr rfl rfl (by first | decide | simp) (x_move rfl (fr.ev rfl)) ?_
          clear fr a; intro a fr
          refine fx_may (g := !((((!(homeK m.kind)) && (decide (m.src ≠ 4))) || (decide (m.dst < 0))) || (decide (4 ≤ m.dst)))) (v := .pointer (some ⟨b25, 1, none⟩)) fr rfl rfl rfl (by simp) rfl (by first | decide | simp) (fun hg => x_fieldAddr fo66_1 rfl (fr.ev rfl) rfl) ?_
          clear fr a; intro a fr
          refine fx_may (g := !((((!(homeK m.kind)) && (decide (m.src ≠ 4))) || (decide (m.dst < 0))) || (decide (4 ≤ m.dst)))) (v := .bool (bytesK m.kind)) fr rfl rfl rfl (by simp) rfl (by first | decide | simp) (fun hg => x_load1 pl4 rfl ((fr.ev rfl).trans (onlyIf_t hg)) (B28.cell 1 rfl)) ?_
          clear fr a; intro a fr
          refine fx_may (g := !((((!(homeK m.kind)) && (decide (m.src ≠ 4))) || (decide (m.dst < 0))) || (decide (4 ≤ m.dst)))) (v := .bool (!(bytesK m.kind))) fr rfl rfl rfl (by simp) rfl (by first | decide | simp) (fun hg => x_not rfl ((fr.ev rfl).trans (onlyIf_t hg)) rfl) ?_
          clear fr a; intro a fr
          refine fx_may (g := !((((!(homeK m.kind)) && (decide (m.src ≠ 4))) || (decide (m.dst < 0))) || (decide (4 ≤ m.dst)))) (v := .bool (!(bytesK m.kind))) fr rfl rfl rfl (by simp) rfl (by first | decide | simp) (fun hg => x_move rfl ((fr.ev rfl).trans (onlyIf_t hg))) ?_
          clear fr a; intro a fr
          refine fx_may2 (g := (!((((!(homeK m.kind)) && (decide (m.src ≠ 4))) || (decide (m.dst < 0))) || (decide (4 ≤ m.dst)))) && (!(bytesK m.kind))) (v := .pointer (some ⟨b1, 4, none⟩)) fr rfl rfl rfl (by simp) rfl (by first | decide | simp) (fun hg => x_fieldAddr fo26_4 rfl (fr.ev rfl) rfl) ?_
          clear fr a; intro a fr
          refine fx_may2 (g := (!((((!(homeK m.kind)) && (decide (m.src ≠ 4))) || (decide (m.dst < 0))) || (decide (4 ≤ m.dst)))) && (!(bytesK m.kind))) (v := .agg (bsE.arr m.bs)) fr rfl rfl rfl (by simp) rfl (by first | decide | simp) (fun hg => x_loadE (E := bsE) ag24 rfl rfl ((fr.ev rfl).trans (onlyIf_t hg)) (B4.part (msg_bs _))) ?_
          clear fr a; intro a fr
          refine fx_may2 (g := (!((((!(homeK m.kind)) && (decide (m.src ≠ 4))) || (decide (m.dst < 0))) || (decide (4 ≤ m.dst)))) && (!(bytesK m.kind))) (v := .agg (bsE.arr bs0)) fr rfl rfl rfl (by simp) rfl (by first | decide | simp) (fun hg => x_build (cells := bsE.arr bs0) rfl (by kernel_rfl)) ?_
          clear fr a; intro a fr
          refine fx_may2 (g := (!((((!(homeK m.kind)) && (decide (m.src ≠ 4))) || (decide (m.dst < 0))) || (decide (4 ≤ m.dst)))) && (!(bytesK m.kind))) (v := .bool (!decide (m.bs = bs0))) fr rfl rfl rfl (by simp) rfl (by first | decide | simp) (fun hg => x_neE bsER rfl rfl ((fr.ev rfl).trans (onlyIf_t hg)) ((fr.ev rfl).trans (onlyIf_t hg)) rfl) ?_
          clear fr a; intro a fr
          refine fx_may (g := !((((!(homeK m.kind)) && (decide (m.src ≠ 4))) || (decide (m.dst < 0))) || (decide (4 ≤ m.dst)))) (v := .bool ((!(bytesK m.kind)) && (!decide (m.bs = bs0)))) fr rfl rfl rfl (by simp) rfl (by first | decide | simp) (fun hg => x_pick_and rfl ((fr.ev rfl).trans (onlyIf_t hg)) (fun hb => ((fr.ev rfl)).trans (onlyIf_t (by simp_all))) (fun _ => rfl) rfl) ?_
          clear fr a; intro a fr
          refine fx_val (v := .bool (((((!(homeK m.kind)) && (decide (m.src ≠ 4))) || (decide (m.dst < 0))) || (decide (4 ≤ m.dst))) || ((!(bytesK m.kind)) && (!decide (m.bs = bs0))))) fr rfl rfl (by first | decide | simp) (x_pick_or rfl (fr.ev rfl) (fun _ => rfl) (fun hb => ((fr.ev rfl)).trans (onlyIf_t (by simp_all))) rfl) ?_
          clear fr a; intro a fr
          refine wpList_nil ?_
          refine fx_next ?_
          refine fx_cond fr rfl (fun hc36 => ?_) (fun hc36 => ?_)
          · skip
            refine wp_seq ?_
            refine wp_region_lit ?_  -- region 10
            refine fx_val (v := .int .i64 2) fr rfl rfl (by first | decide | simp) (x_assign rfl rfl) ?_
            clear fr a; intro a fr
            refine wpList_nil ?_
            refine fx_next ?_
            refine wp_ret ?_
            refine fx_rt ?_
            refine fx_rb ?_
            refine fx_rt ?_
            refine fx_ret fr [.tmp 2] [.int .i64 2] rfl ⟨rfl, trivial⟩ rfl ?_
            exact ⟨_, rfl, congrArg (Value.int .i64) (by have hx := home_not m.kind; have hk := isK_iff m.kind; clear fr; by_cases e1 : m.dst = 4 <;> by_cases e2 : m.src = 4 <;> simp_all [chk, goodMsg, isCache] <;> first | omega | (intro p q; rcases ‹(_ ∨ _) ∨ _› with (h | h) | h <;> first | omega | exact h)), hF⟩
          · skip
            refine wp_skip ?_
            refine fx_next ?_
            refine wp_exit ?_
            refine fx_xx ?_
            refine fx_next ?_
            refine wp_seq ?_
            refine wp_region_lit ?_  -- region 11
            refine fx_val (v := .int .i64 0) fr rfl rfl (by first | decide | simp) (x_assign rfl rfl) ?_
            clear fr a; intro a fr
            refine wpList_nil ?_
            refine fx_next ?_
            refine wp_ret ?_
            refine fx_ret fr [.tmp 2] [.int .i64 0] rfl ⟨rfl, trivial⟩ rfl ?_
            exact ⟨_, rfl, congrArg (Value.int .i64) (by have hx := home_not m.kind; have hk := isK_iff m.kind; clear fr; by_cases e1 : m.dst = 4 <;> by_cases e2 : m.src = 4 <;> simp_all [chk, goodMsg, isCache] <;> first | omega | (intro p q; rcases ‹(_ ∨ _) ∨ _› with (h | h) | h <;> first | omega | exact h)), hF⟩
  · skip
    refine fx_new fr rfl rfl (by first | decide | simp) (x_alloc (z := .agg (#[.bool false, .bool false])) (cs := #[.bool false, .bool false]) rfl (by kernel_rfl) rfl) ?_
    clear fr a
    intro b37 w38 hN39 B40 hb41 a fr
    have ne_b1_b37 : ¬ b1 = b37 := Nat.ne_of_lt (Nat.lt_of_lt_of_le B4.lt hb41)
    have g_b37 := Nat.le_trans hF.size hb41
    replace B4 := B4.new hN39
    replace hF := hF.trNew hN39
    refine wpList_nil ?_
    refine ⟨⟨B4, trivial⟩, ?_⟩
    refine fx_one (i := 0) (by kernel_rfl) (fx_op rfl ?_)
    refine fx_call fr rfl rfl (by first | decide | simp) (x_call (vs := []) rfl rfl trivial Try.func28 nm28 rfl) (wants_c _) ?_
    clear fr a
    rintro v w45 ⟨r42, rfl, hr44, M43, hN46⟩ a fr
    have ne_b1_r42 : ¬ b1 = r42 := Nat.ne_of_lt (Nat.lt_of_lt_of_le B4.lt hr44)
    have ne_b37_r42 : ¬ b37 = r42 := Nat.ne_of_lt (Nat.lt_of_lt_of_le B40.lt hr44)
    have g_r42 := Nat.le_trans hF.size hr44
    replace B4 := B4.new hN46
    replace B40 := B40.new hN46
    replace hF := hF.trNew hN46
    refine wpList_nil ?_
    refine ⟨⟨B4, trivial⟩, ?_⟩
    refine fx_one (i := 3) (by kernel_rfl) (fx_op rfl ?_)
    refine fx_val (v := .tuple #[.agg (#[.bool (homeK m.kind), .bool (bytesK m.kind)]), .bool (isK m.kind)]) fr rfl rfl (by first | decide | simp) (x_lookup (k := .i64) (ok := true) (v := .agg (#[.bool (homeK m.kind), .bool (bytesK m.kind)])) (b := (isK m.kind)) Try.underlying68 Try.underlying22 rfl (fr.ev rfl) (fr.ev rfl) M43 (z := .agg (#[.bool false, .bool false])) (by kernel_rfl) (wants_find _)) ?_
    clear fr a; intro a fr
    refine wpList_nil ?_
    refine ⟨⟨B4, trivial⟩, ?_⟩
    refine fx_take (i := 4) (v := .tuple #[.agg (#[.bool (homeK m.kind), .bool (bytesK m.kind)]), .bool (isK m.kind)]) fr rfl (by kernel_rfl) rfl rfl (by first | decide | simp) (fun _ _ _ h => h) (fun _ ⟨B4, _⟩ => x_move rfl (fr.ev rfl)) ⟨B4, trivial⟩ ?_
    clear fr a; intro a fr
    refine fx_take (i := 5) (v := .agg (#[.bool (homeK m.kind), .bool (bytesK m.kind)])) fr rfl (by kernel_rfl) rfl rfl (by first | decide | simp) (fun _ _ _ h => h) (fun _ ⟨B4, _⟩ => x_extract rfl (fr.ev rfl) rfl) ⟨B4, trivial⟩ ?_
    clear fr a; intro a fr
    refine fx_take (i := 6) (v := .bool (isK m.kind)) fr rfl (by kernel_rfl) rfl rfl (by first | decide | simp) (fun _ _ _ h => h) (fun _ ⟨B4, _⟩ => x_extract rfl (fr.ev rfl) rfl) ⟨B4, trivial⟩ ?_
    clear fr a; intro a fr
    refine fx_one (i := 8) (by kernel_rfl) (fx_op rfl ?_)
    refine fx_storeS sz66 rfl rfl rfl (fr.ev rfl) (fr.ev rfl) (by simp [Value.oneCell']) B40 rfl rfl fun w47 hO48 hBq => ?_
    replace B4 := B4.only hO48 (by show ¬ b1 = b37; omega)
    replace M43 := M43.only hO48 (by show ¬ r42 = b37; omega)
    replace hF := hF.loc hO48 (.inr g_b37)
    replace B40 := hBq
    clear hBq
    refine wpList_nil ?_
    refine ⟨⟨B4, trivial⟩, ?_⟩
    refine fx_hdone (by kernel_rfl) ?_
    refine fx_tail ?_
    refine fx_val (v := .bool (isK m.kind)) fr rfl rfl (by first | decide | simp) (x_assign rfl (fr.ev rfl)) ?_
    clear fr a; intro a fr
    refine wpList_nil ?_
    refine fx_next ?_
    refine wp_seq ?_
    refine wp_region_lit ?_  -- region 2
    refine fx_val (v := .pointer (some ⟨b1, 2, none⟩)) fr rfl rfl (by first | decide | simp) (x_fieldAddr fo26_2 rfl (fr.ev rfl) rfl) ?_
    clear fr a; intro a fr
    refine fx_val (v := .int .i64 m.dst) fr rfl rfl (by first | decide | simp) (x_load1 pl3 rfl (fr.ev rfl) (B4.cell 2 rfl)) ?_
    clear fr a; intro a fr
    refine fx_val (v := .int .i64 m.dst) fr rfl rfl (by first | decide | simp) (x_assign rfl (fr.ev rfl)) ?_
    clear fr a; intro a fr
    refine wpList_nil ?_
    refine fx_next ?_
    refine wp_seq ?_
    refine wp_block ?_
    refine wp_seq ?_
    refine wp_block ?_
    refine wp_seq ?_
    refine wp_block ?_
    refine wp_seq ?_
    refine wp_block ?_
    refine wp_seq ?_
    refine wp_seq ?_
    refine wp_seq ?_
    refine wp_region_lit ?_  -- region 3
    refine fx_val (v := .bool (isK m.kind)) fr rfl rfl (by first | decide | simp) (x_move rfl (fr.ev rfl)) ?_
    clear fr a; intro a fr
    refine fx_val (v := .bool (!(isK m.kind))) fr rfl rfl (by first | decide | simp) (x_not rfl (fr.ev rfl) rfl) ?_
    clear fr a; intro a fr
    refine fx_val (v := .bool (!(isK m.kind))) fr rfl rfl (by first | decide | simp) (x_assign rfl (fr.ev rfl)) ?_
    clear fr a; intro a fr
    refine wpList_nil ?_
    refine fx_next ?_
    refine fx_cond fr rfl (fun hc49 => ?_) (fun hc49 => ?_)
    · skip
      refine wp_exit ?_
      refine fx_xt ?_
      refine fx_xt ?_
      refine fx_xx ?_
      refine fx_next ?_
      refine wp_seq ?_
      refine wp_seq ?_
      refine wp_region_lit ?_  -- region 5
      refine fx_val (v := .int .i64 2) fr rfl rfl (by first | decide | simp) (x_assign rfl rfl) ?_
      clear fr a; intro a fr
      refine wpList_nil ?_
      refine fx_next ?_
      refine wp_ret ?_
      refine fx_rt ?_
      refine fx_rb ?_
      refine fx_rt ?_
      refine fx_rb ?_
      refine fx_rt ?_
      refine fx_rb ?_
      refine fx_rt ?_
      refine fx_ret fr [.tmp 2] [.int .i64 2] rfl ⟨rfl, trivial⟩ rfl ?_
      exact ⟨_, rfl, congrArg (Value.int .i64) (by have hx := home_not m.kind; have hk := isK_iff m.kind; clear fr; by_cases e1 : m.dst = 4 <;> by_cases e2 : m.src = 4 <;> simp_all [chk, goodMsg, isCache] <;> first | omega | (intro p q; rcases ‹(_ ∨ _) ∨ _› with (h | h) | h <;> first | omega | exact h)), hF⟩
    · skip
      refine wp_skip ?_
      refine fx_next ?_
      refine wp_seq ?_
      refine wp_region_lit ?_  -- region 4
      refine fx_val (v := .pointer (some ⟨b37, 0, none⟩)) fr rfl rfl (by first | decide | simp) (x_fieldAddr fo66_0 rfl (fr.ev rfl) rfl) ?_
      clear fr a; intro a fr
      refine fx_val (v := .bool (homeK m.kind)) fr rfl rfl (by first | decide | simp) (x_load1 pl4 rfl (fr.ev rfl) (B40.cell 0 rfl)) ?_
      clear fr a; intro a fr
      refine fx_val (v := .bool (homeK m.kind)) fr rfl rfl (by first | decide | simp) (x_assign rfl (fr.ev rfl)) ?_
      clear fr a; intro a fr
      refine wpList_nil ?_
      refine fx_next ?_
      refine fx_cond fr rfl (fun hc50 => ?_) (fun hc50 => ?_)
      · skip
        refine wp_exit ?_
        refine fx_xt ?_
        refine fx_xb (by decide) ?_
        refine fx_xt ?_
        refine fx_xx ?_
        refine fx_next ?_
        refine wp_seq ?_
        refine wp_seq ?_
        refine wp_region_lit ?_  -- region 6
        refine fx_val (v := .pointer (some ⟨b1, 2, none⟩)) fr rfl rfl (by first | decide | simp) (x_fieldAddr fo26_2 rfl (fr.ev rfl) rfl) ?_
        clear fr a; intro a fr
        refine fx_val (v := .int .i64 m.dst) fr rfl rfl (by first | decide | simp) (x_load1 pl3 rfl (fr.ev rfl) (B4.cell 2 rfl)) ?_
        clear fr a; intro a fr
        refine fx_val (v := .bool (decide (m.dst ≠ 4))) fr rfl rfl (by first | decide | simp) (x_neq rfl (fr.ev rfl) rfl rfl) ?_
        clear fr a; intro a fr
        refine wpList_nil ?_
        refine fx_next ?_
        refine fx_cond fr rfl (fun hc51 => ?_) (fun hc51 => ?_)
        · skip
          have hc51 := of_decide_eq_true hc51
          refine wp_seq ?_
          refine wp_region_lit ?_  -- region 7
          refine fx_val (v := .int .i64 2) fr rfl rfl (by first | decide | simp) (x_assign rfl rfl) ?_
          clear fr a; intro a fr
          refine wpList_nil ?_
          refine fx_next ?_
          refine wp_ret ?_
          refine fx_rt ?_
          refine fx_rb ?_
          refine fx_rt ?_
          refine fx_rb ?_
          refine fx_rt ?_
          refine fx_ret fr [.tmp 2] [.int .i64 2] rfl ⟨rfl, trivial⟩ rfl ?_
          exact ⟨_, rfl, congrArg (Value.int .i64) (by have hx := home_not m.kind; have hk := isK_iff m.kind; clear fr; by_cases e1 : m.dst = 4 <;> by_cases e2 : m.src = 4 <;> simp_all [chk, goodMsg, isCache] <;> first | omega | (intro p q; rcases ‹(_ ∨ _) ∨ _› with (h | h) | h <;> first | omega | exact h)), hF⟩
        · skip
          have hc51 := of_decide_eq_false hc51
          refine wp_skip ?_
          refine fx_next ?_
          refine wp_region_lit ?_  -- region 8
          refine fx_val (v := .pointer (some ⟨b1, 1, none⟩)) fr rfl rfl (by first | decide | simp) (x_fieldAddr fo26_1 rfl (fr.ev rfl) rfl) ?_
          clear fr a; intro a fr
          refine fx_val (v := .int .i64 m.src) fr rfl rfl (by first | decide | simp) (x_load1 pl3 rfl (fr.ev rfl) (B4.cell 1 rfl)) ?_
          clear fr a; intro a fr
          refine fx_val (v := .int .i64 m.src) fr rfl rfl (by first | decide | simp) (x_assign rfl (fr.ev rfl)) ?_
          clear fr a; intro a fr
          refine wpList_nil ?_
          refine fx_blk ?_
          refine fx_next ?_
          refine wp_seq ?_
          refine wp_seq ?_
          refine wp_region_lit ?_  -- region 9
          refine fx_val (v := .pointer (some ⟨b37, 0, none⟩)) fr rfl rfl (by first | decide | simp) (x_fieldAddr fo66_0 rfl (fr.ev rfl) rfl) ?_
          clear fr a; intro a fr
          refine fx_val (v := .bool (homeK m.kind)) fr rfl rfl (by first | decide | simp) (x_load1 pl4 rfl (fr.ev rfl) (B40.cell 0 rfl)) ?_
          clear fr a; intro a fr
          refine fx_val (v := .bool (!(homeK m.kind))) fr rfl rfl (by first | decide | simp) (x_not rfl (fr.ev rfl) rfl) ?_
          clear fr a; intro a fr
          refine fx_val (v := .bool (!(homeK m.kind))) fr rfl rfl (by first | decide | simp) (x_move rfl (fr.ev rfl)) ?_
          clear fr a; intro a fr
          refine fx_may (g := (!(homeK m.kind))) (v := .pointer (some ⟨b1, 1, none⟩)) fr rfl rfl rfl (by simp) rfl (by first | decide | simp) (fun hg => x_fieldAddr fo26_1 rfl (fr.ev rfl) rfl) ?_
          clear fr a; intro a fr
          refine fx_may (g := (!(homeK m.kind))) (v := .int .i64 m.src) fr rfl rfl rfl (by simp) rfl (by first | decide | simp) (fun hg => x_load1 pl3 rfl ((fr.ev rfl).trans (onlyIf_t hg)) (B4.cell 1 rfl)) ?_
          clear fr a; intro a fr
          refine fx_may (g := (!(homeK m.kind))) (v := .bool (decide (m.src ≠ 4))) fr rfl rfl rfl (by simp) rfl (by first | decide | simp) (fun hg => x_neq rfl ((fr.ev rfl).trans (onlyIf_t hg)) rfl rfl) ?_
          clear fr a; intro a fr
          refine fx_val (v := .bool ((!(homeK m.kind)) && (decide (m.src ≠ 4)))) fr rfl rfl (by first | decide | simp) (x_pick_and rfl (fr.ev rfl) (fun hb => ((fr.ev rfl)).trans (onlyIf_t (by simp_all))) (fun _ => rfl) rfl) ?_
          clear fr a; intro a fr
          refine fx_val (v := .bool ((!(homeK m.kind)) && (decide (m.src ≠ 4)))) fr rfl rfl (by first | decide | simp) (x_move rfl (fr.ev rfl)) ?_
          clear fr a; intro a fr
          refine fx_may (g := !((!(homeK m.kind)) && (decide (m.src ≠ 4)))) (v := .int .i64 m.src) fr rfl rfl rfl (by simp) rfl (by first | decide | simp) (fun hg => x_move rfl (fr.ev rfl)) ?_
          clear fr a; intro a fr
          refine fx_may (g := !((!(homeK m.kind)) && (decide (m.src ≠ 4)))) (v := .bool (decide (m.src < 0))) fr rfl rfl rfl (by simp) rfl (by first | decide | simp) (fun hg => x_lss rfl ((fr.ev rfl).trans (onlyIf_t hg)) rfl rfl) ?_
          clear fr a; intro a fr
          refine fx_val (v := .bool (((!(homeK m.kind)) && (decide (m.src ≠ 4))) || (decide (m.src < 0)))) fr rfl rfl (by first | decide | simp) (x_pick_or rfl (fr.ev rfl) (fun _ => rfl) (fun hb => ((fr.ev rfl)).trans (onlyIf_t (by simp_all))) rfl) ?_
          clear fr a; intro a fr
          refine fx_val (v := .bool (((!(homeK m.kind)) && (decide (m.src ≠ 4))) || (decide (m.src < 0)))) fr rfl rfl (by first | decide | simp) (x_move rfl (fr.ev rfl)) ?_
          clear fr a; intro a fr
          refine fx_may (g := !(((!(homeK m.kind)) && (decide (m.src ≠ 4))) || (decide (m.src < 0)))) (v := .int .i64 m.src) fr rfl rfl rfl (by simp) rfl (by first | decide | simp) (fun hg => x_move rfl (fr.ev rfl)) ?_
          clear fr a; intro a fr
          refine fx_may (g := !(((!(homeK m.kind)) && (decide (m.src ≠ 4))) || (decide (m.src < 0)))) (v := .bool (decide (4 ≤ m.src))) fr rfl rfl rfl (by simp) rfl (by first | decide | simp) (fun hg => x_geq rfl ((fr.ev rfl).trans (onlyIf_t hg)) rfl rfl) ?_
          clear fr a; intro a fr
          refine fx_val (v := .bool ((((!(homeK m.kind)) && (decide (m.src ≠ 4))) || (decide (m.src < 0))) || (decide (4 ≤ m.src)))) fr rfl rfl (by first | decide | simp) (x_pick_or rfl (fr.ev rfl) (fun _ => rfl) (fun hb => ((fr.ev rfl)).trans (onlyIf_t (by simp_all))) rfl) ?_
          clear fr a; intro a fr
          refine fx_val (v := .bool ((((!(homeK m.kind)) && (decide (m.src ≠ 4))) || (decide (m.src < 0))) || (decide (4 ≤ m.src)))) fr rfl rfl (by first | decide | simp) (x_move rfl (fr.ev rfl)) ?_
          clear fr a; intro a fr
          refine fx_may (g := !((((!(homeK m.kind)) && (decide (m.src ≠ 4))) || (decide (m.src < 0))) || (decide (4 ≤ m.src)))) (v := .pointer (some ⟨b37, 1, none⟩)) fr rfl rfl rfl (by simp) rfl (by first | decide | simp) (fun hg => x_fieldAddr fo66_1 rfl (fr.ev rfl) rfl) ?_
          clear fr a; intro a fr
          refine fx_may (g := !((((!(homeK m.kind)) && (decide (m.src ≠ 4))) || (decide (m.src < 0))) || (decide (4 ≤ m.src)))) (v := .bool (bytesK m.kind)) fr rfl rfl rfl (by simp) rfl (by first | decide | simp) (fun hg => x_load1 pl4 rfl ((fr.ev rfl).trans (onlyIf_t hg)) (B40.cell 1 rfl)) ?_
          clear fr a; intro a fr
          refine fx_may (g := !((((!(homeK m.kind)) && (decide (m.src ≠ 4))) || (decide (m.src < 0))) || (decide (4 ≤ m.src)))) (v := .bool (!(bytesK m.kind))) fr rfl rfl rfl (by simp) rfl (by first | decide | simp) (fun hg => x_not rfl ((fr.ev rfl).trans (onlyIf_t hg)) rfl) ?_
          clear fr a; intro a fr
          refine fx_may (g := !((((!(homeK m.kind)) && (decide (m.src ≠ 4))) || (decide (m.src < 0))) || (decide (4 ≤ m.src)))) (v := .bool (!(bytesK m.kind))) fr rfl rfl rfl (by simp) rfl (by first | decide | simp) (fun hg => x_move rfl ((fr.ev rfl).trans (onlyIf_t hg))) ?_
          clear fr a; intro a fr
          refine fx_may2 (g := (!((((!(homeK m.kind)) && (decide (m.src ≠ 4))) || (decide (m.src < 0))) || (decide (4 ≤ m.src)))) && (!(bytesK m.kind))) (v := .pointer (some ⟨b1, 4, none⟩)) fr rfl rfl rfl (by simp) rfl (by first | decide | simp) (fun hg => x_fieldAddr fo26_4 rfl (fr.ev rfl) rfl) ?_
          clear fr a; intro a fr
          refine fx_may2 (g := (!((((!(homeK m.kind)) && (decide (m.src ≠ 4))) || (decide (m.src < 0))) || (decide (4 ≤ m.src)))) && (!(bytesK m.kind))) (v := .agg (bsE.arr m.bs)) fr rfl rfl rfl (by simp) rfl (by first | decide | simp) (fun hg => x_loadE (E := bsE) ag24 rfl rfl ((fr.ev rfl).trans (onlyIf_t hg)) (B4.part (msg_bs _))) ?_
          clear fr a; intro a fr
          refine fx_may2 (g := (!((((!(homeK m.kind)) && (decide (m.src ≠ 4))) || (decide (m.src < 0))) || (decide (4 ≤ m.src)))) && (!(bytesK m.kind))) (v := .agg (bsE.arr bs0)) fr rfl rfl rfl (by simp) rfl (by first | decide | simp) (fun hg => x_build (cells := bsE.arr bs0) rfl (by kernel_rfl)) ?_
          clear fr a; intro a fr
          refine fx_may2 (g := (!((((!(homeK m.kind)) && (decide (m.src ≠ 4))) || (decide (m.src < 0))) || (decide (4 ≤ m.src)))) && (!(bytesK m.kind))) (v := .bool (!decide (m.bs = bs0))) fr rfl rfl rfl (by simp) rfl (by first | decide | simp) (fun hg => x_neE bsER rfl rfl ((fr.ev rfl).trans (onlyIf_t hg)) ((fr.ev rfl).trans (onlyIf_t hg)) rfl) ?_
          clear fr a; intro a fr
          refine fx_may (g := !((((!(homeK m.kind)) && (decide (m.src ≠ 4))) || (decide (m.src < 0))) || (decide (4 ≤ m.src)))) (v := .bool ((!(bytesK m.kind)) && (!decide (m.bs = bs0)))) fr rfl rfl rfl (by simp) rfl (by first | decide | simp) (fun hg => x_pick_and rfl ((fr.ev rfl).trans (onlyIf_t hg)) (fun hb => ((fr.ev rfl)).trans (onlyIf_t (by simp_all))) (fun _ => rfl) rfl) ?_
          clear fr a; intro a fr
          refine fx_val (v := .bool (((((!(homeK m.kind)) && (decide (m.src ≠ 4))) || (decide (m.src < 0))) || (decide (4 ≤ m.src))) || ((!(bytesK m.kind)) && (!decide (m.bs = bs0))))) fr rfl rfl (by first | decide | simp) (x_pick_or rfl (fr.ev rfl) (fun _ => rfl) (fun hb => ((fr.ev rfl)).trans (onlyIf_t (by simp_all))) rfl) ?_
          clear fr a; intro a fr
          refine wpList_nil ?_
          refine fx_next ?_
          refine fx_cond fr rfl (fun hc52 => ?_) (fun hc52 => ?_)
          · skip
            refine wp_seq ?_
            refine wp_region_lit ?_  -- region 10
            refine fx_val (v := .int .i64 2) fr rfl rfl (by first | decide | simp) (x_assign rfl rfl) ?_
            clear fr a; intro a fr
            refine wpList_nil ?_
            refine fx_next ?_
            refine wp_ret ?_
            refine fx_rt ?_
            refine fx_rb ?_
            refine fx_rt ?_
            refine fx_ret fr [.tmp 2] [.int .i64 2] rfl ⟨rfl, trivial⟩ rfl ?_
            exact ⟨_, rfl, congrArg (Value.int .i64) (by have hx := home_not m.kind; have hk := isK_iff m.kind; clear fr; by_cases e1 : m.dst = 4 <;> by_cases e2 : m.src = 4 <;> simp_all [chk, goodMsg, isCache] <;> first | omega | (intro p q; rcases ‹(_ ∨ _) ∨ _› with (h | h) | h <;> first | omega | exact h)), hF⟩
          · skip
            refine wp_skip ?_
            refine fx_next ?_
            refine wp_exit ?_
            refine fx_xx ?_
            refine fx_next ?_
            refine wp_seq ?_
            refine wp_region_lit ?_  -- region 11
            refine fx_val (v := .int .i64 0) fr rfl rfl (by first | decide | simp) (x_assign rfl rfl) ?_
            clear fr a; intro a fr
            refine wpList_nil ?_
            refine fx_next ?_
            refine wp_ret ?_
            refine fx_ret fr [.tmp 2] [.int .i64 0] rfl ⟨rfl, trivial⟩ rfl ?_
            exact ⟨_, rfl, congrArg (Value.int .i64) (by have hx := home_not m.kind; have hk := isK_iff m.kind; clear fr; by_cases e1 : m.dst = 4 <;> by_cases e2 : m.src = 4 <;> simp_all [chk, goodMsg, isCache] <;> first | omega | (intro p q; rcases ‹(_ ∨ _) ∨ _› with (h | h) | h <;> first | omega | exact h)), hF⟩
      · skip
        refine wp_skip ?_
        refine fx_next ?_
        refine wp_exit ?_
        refine fx_xb (by decide) ?_
        refine fx_xt ?_
        refine fx_xb (by decide) ?_
        refine fx_xt ?_
        refine fx_xx ?_
        refine fx_next ?_
        refine wp_seq ?_
        refine wp_seq ?_
        refine wp_region_lit ?_  -- region 9
        refine fx_val (v := .pointer (some ⟨b37, 0, none⟩)) fr rfl rfl (by first | decide | simp) (x_fieldAddr fo66_0 rfl (fr.ev rfl) rfl) ?_
        clear fr a; intro a fr
        refine fx_val (v := .bool (homeK m.kind)) fr rfl rfl (by first | decide | simp) (x_load1 pl4 rfl (fr.ev rfl) (B40.cell 0 rfl)) ?_
        clear fr a; intro a fr
        refine fx_val (v := .bool (!(homeK m.kind))) fr rfl rfl (by first | decide | simp) (x_not rfl (fr.ev rfl) rfl) ?_
        clear fr a; intro a fr
        refine fx_val (v := .bool (!(homeK m.kind))) fr rfl rfl (by first | decide | simp) (x_move rfl (fr.ev rfl)) ?_
        clear fr a; intro a fr
        refine fx_may (g := (!(homeK m.kind))) (v := .pointer (some ⟨b1, 1, none⟩)) fr rfl rfl rfl (by simp) rfl (by first | decide | simp) (fun hg => x_fieldAddr fo26_1 rfl (fr.ev rfl) rfl) ?_
        clear fr a; intro a fr
        refine fx_may (g := (!(homeK m.kind))) (v := .int .i64 m.src) fr rfl rfl rfl (by simp) rfl (by first | decide | simp) (fun hg => x_load1 pl3 rfl ((fr.ev rfl).trans (onlyIf_t hg)) (B4.cell 1 rfl)) ?_
        clear fr a; intro a fr
        refine fx_may (g := (!(homeK m.kind))) (v := .bool (decide (m.src ≠ 4))) fr rfl rfl rfl (by simp) rfl (by first | decide | simp) (fun hg => x_neq rfl ((fr.ev rfl).trans (onlyIf_t hg)) rfl rfl) ?_
        clear fr a; intro a fr
        refine fx_val (v := .bool ((!(homeK m.kind)) && (decide (m.src ≠ 4)))) fr rfl rfl (by first | decide | simp) (x_pick_and rfl (fr.ev rfl) (fun hb => ((fr.ev rfl)).trans (onlyIf_t (by simp_all))) (fun _ => rfl) rfl) ?_
        clear fr a; intro a fr
        refine fx_val (v := .bool ((!(homeK m.kind)) && (decide (m.src ≠ 4)))) fr rfl rfl (by first | decide | simp) (x_move rfl (fr.ev rfl)) ?_
        clear fr a; intro a fr
        refine fx_may (g := !((!(homeK m.kind)) && (decide (m.src ≠ 4)))) (v := .int .i64 m.dst) fr rfl rfl rfl (by simp) rfl (by first | decide | simp) (fun hg => x_move rfl (fr.ev rfl)) ?_
        clear fr a; intro a fr
        refine fx_may (g := !((!(homeK m.kind)) && (decide (m.src ≠ 4)))) (v := .bool (decide (m.dst < 0))) fr rfl rfl rfl (by simp) rfl (by first | decide | simp) (fun hg => x_lss rfl ((fr.ev rfl).trans (onlyIf_t hg)) rfl rfl) ?_
        clear fr a; intro a fr
        refine fx_val (v := .bool (((!(homeK m.kind)) && (decide (m.src ≠ 4))) || (decide (m.dst < 0)))) fr rfl rfl (by first | decide | simp) (x_pick_or rfl (fr.ev rfl) (fun _ => rfl) (fun hb => ((fr.ev rfl)).trans (onlyIf_t (by simp_all))) rfl) ?_
        clear fr a; intro a fr
        refine fx_val (v := .bool (((!(homeK m.kind)) && (decide (m.src ≠ 4))) || (decide (m.dst < 0)))) fr rfl rfl (by first | decide | simp) (x_move rfl (fr.ev rfl)) ?_
        clear fr a; intro a fr
        refine fx_may (g := !(((!(homeK m.kind)) && (decide (m.src ≠ 4))) || (decide (m.dst < 0)))) (v := .int .i64 m.dst) fr rfl rfl rfl (by simp) rfl (by first | decide | simp) (fun hg => x_move rfl (fr.ev rfl)) ?_
        clear fr a; intro a fr
        refine fx_may (g := !(((!(homeK m.kind)) && (decide (m.src ≠ 4))) || (decide (m.dst < 0)))) (v := .bool (decide (4 ≤ m.dst))) fr rfl rfl rfl (by simp) rfl (by first | decide | simp) (fun hg => x_geq rfl ((fr.ev rfl).trans (onlyIf_t hg)) rfl rfl) ?_
        clear fr a; intro a fr
        refine fx_val (v := .bool ((((!(homeK m.kind)) && (decide (m.src ≠ 4))) || (decide (m.dst < 0))) || (decide (4 ≤ m.dst)))) fr rfl rfl (by first | decide | simp) (x_pick_or rfl (fr.ev rfl) (fun _ => rfl) (fun hb => ((fr.ev rfl)).trans (onlyIf_t (by simp_all))) rfl) ?_
        clear fr a; intro a fr
        refine fx_val (v := .bool ((((!(homeK m.kind)) && (decide (m.src ≠ 4))) || (decide (m.dst < 0))) || (decide (4 ≤ m.dst)))) fr rfl rfl (by first | decide | simp) (x_move rfl (fr.ev rfl)) ?_
        clear fr a; intro a fr
        refine fx_may (g := !((((!(homeK m.kind)) && (decide (m.src ≠ 4))) || (decide (m.dst < 0))) || (decide (4 ≤ m.dst)))) (v := .pointer (some ⟨b37, 1, none⟩)) fr rfl rfl rfl (by simp) rfl (by first | decide | simp) (fun hg => x_fieldAddr fo66_1 rfl (fr.ev rfl) rfl) ?_
        clear fr a; intro a fr
        refine fx_may (g := !((((!(homeK m.kind)) && (decide (m.src ≠ 4))) || (decide (m.dst < 0))) || (decide (4 ≤ m.dst)))) (v := .bool (bytesK m.kind)) fr rfl rfl rfl (by simp) rfl (by first | decide | simp) (fun hg => x_load1 pl4 rfl ((fr.ev rfl).trans (onlyIf_t hg)) (B40.cell 1 rfl)) ?_
        clear fr a; intro a fr
        refine fx_may (g := !((((!(homeK m.kind)) && (decide (m.src ≠ 4))) || (decide (m.dst < 0))) || (decide (4 ≤ m.dst)))) (v := .bool (!(bytesK m.kind))) fr rfl rfl rfl (by simp) rfl (by first | decide | simp) (fun hg => x_not rfl ((fr.ev rfl).trans (onlyIf_t hg)) rfl) ?_
        clear fr a; intro a fr
        refine fx_may (g := !((((!(homeK m.kind)) && (decide (m.src ≠ 4))) || (decide (m.dst < 0))) || (decide (4 ≤ m.dst)))) (v := .bool (!(bytesK m.kind))) fr rfl rfl rfl (by simp) rfl (by first | decide | simp) (fun hg => x_move rfl ((fr.ev rfl).trans (onlyIf_t hg))) ?_
        clear fr a; intro a fr
        refine fx_may2 (g := (!((((!(homeK m.kind)) && (decide (m.src ≠ 4))) || (decide (m.dst < 0))) || (decide (4 ≤ m.dst)))) && (!(bytesK m.kind))) (v := .pointer (some ⟨b1, 4, none⟩)) fr rfl rfl rfl (by simp) rfl (by first | decide | simp) (fun hg => x_fieldAddr fo26_4 rfl (fr.ev rfl) rfl) ?_
        clear fr a; intro a fr
        refine fx_may2 (g := (!((((!(homeK m.kind)) && (decide (m.src ≠ 4))) || (decide (m.dst < 0))) || (decide (4 ≤ m.dst)))) && (!(bytesK m.kind))) (v := .agg (bsE.arr m.bs)) fr rfl rfl rfl (by simp) rfl (by first | decide | simp) (fun hg => x_loadE (E := bsE) ag24 rfl rfl ((fr.ev rfl).trans (onlyIf_t hg)) (B4.part (msg_bs _))) ?_
        clear fr a; intro a fr
        refine fx_may2 (g := (!((((!(homeK m.kind)) && (decide (m.src ≠ 4))) || (decide (m.dst < 0))) || (decide (4 ≤ m.dst)))) && (!(bytesK m.kind))) (v := .agg (bsE.arr bs0)) fr rfl rfl rfl (by simp) rfl (by first | decide | simp) (fun hg => x_build (cells := bsE.arr bs0) rfl (by kernel_rfl)) ?_
        clear fr a; intro a fr
        refine fx_may2 (g := (!((((!(homeK m.kind)) && (decide (m.src ≠ 4))) || (decide (m.dst < 0))) || (decide (4 ≤ m.dst)))) && (!(bytesK m.kind))) (v := .bool (!decide (m.bs = bs0))) fr rfl rfl rfl (by simp) rfl (by first | decide | simp) (fun hg => x_neE bsER rfl rfl ((fr.ev rfl).trans (onlyIf_t hg)) ((fr.ev rfl).trans (onlyIf_t hg)) rfl) ?_
        clear fr a; intro a fr
        refine fx_may (g := !((((!(homeK m.kind)) && (decide (m.src ≠ 4))) || (decide (m.dst < 0))) || (decide (4 ≤ m.dst)))) (v := .bool ((!(bytesK m.kind)) && (!decide (m.bs = bs0)))) fr rfl rfl rfl (by simp) rfl (by first | decide | simp) (fun hg => x_pick_and rfl ((fr.ev rfl).trans (onlyIf_t hg)) (fun hb => ((fr.ev rfl)).trans (onlyIf_t (by simp_all))) (fun _ => rfl) rfl) ?_
        clear fr a; intro a fr
        refine fx_val (v := .bool (((((!(homeK m.kind)) && (decide (m.src ≠ 4))) || (decide (m.dst < 0))) || (decide (4 ≤ m.dst))) || ((!(bytesK m.kind)) && (!decide (m.bs = bs0))))) fr rfl rfl (by first | decide | simp) (x_pick_or rfl (fr.ev rfl) (fun _ => rfl) (fun hb => ((fr.ev rfl)).trans (onlyIf_t (by simp_all))) rfl) ?_
        clear fr a; intro a fr
        refine wpList_nil ?_
        refine fx_next ?_
        refine fx_cond fr rfl (fun hc53 => ?_) (fun hc53 => ?_)
        · skip
          refine wp_seq ?_
          refine wp_region_lit ?_  -- region 10
          refine fx_val (v := .int .i64 2) fr rfl rfl (by first | decide | simp) (x_assign rfl rfl) ?_
          clear fr a; intro a fr
          refine wpList_nil ?_
          refine fx_next ?_
          refine wp_ret ?_
          refine fx_rt ?_
          refine fx_rb ?_
          refine fx_rt ?_
          refine fx_ret fr [.tmp 2] [.int .i64 2] rfl ⟨rfl, trivial⟩ rfl ?_
          exact ⟨_, rfl, congrArg (Value.int .i64) (by have hx := home_not m.kind; have hk := isK_iff m.kind; clear fr; by_cases e1 : m.dst = 4 <;> by_cases e2 : m.src = 4 <;> simp_all [chk, goodMsg, isCache] <;> first | omega | (intro p q; rcases ‹(_ ∨ _) ∨ _› with (h | h) | h <;> first | omega | exact h)), hF⟩
        · skip
          refine wp_skip ?_
          refine fx_next ?_
          refine wp_exit ?_
          refine fx_xx ?_
          refine fx_next ?_
          refine wp_seq ?_
          refine wp_region_lit ?_  -- region 11
          refine fx_val (v := .int .i64 0) fr rfl rfl (by first | decide | simp) (x_assign rfl rfl) ?_
          clear fr a; intro a fr
          refine wpList_nil ?_
          refine fx_next ?_
          refine wp_ret ?_
          refine fx_ret fr [.tmp 2] [.int .i64 0] rfl ⟨rfl, trivial⟩ rfl ?_
          exact ⟨_, rfl, congrArg (Value.int .i64) (by have hx := home_not m.kind; have hk := isK_iff m.kind; clear fr; by_cases e1 : m.dst = 4 <;> by_cases e2 : m.src = 4 <;> simp_all [chk, goodMsg, isCache] <;> first | omega | (intro p q; rcases ‹(_ ∨ _) ∨ _› with (h | h) | h <;> first | omega | exact h)), hF⟩
end Go.Proofs.Ytdpkeabmfhnfiaa
