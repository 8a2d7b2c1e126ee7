/-
  none, the closure, IndexFunc, Clone, Delete. Printed by gen_b.py.
-/
import Derived.Test.YtdjgfkjcpalihaaFXmore
import Derived.Test.YtdjgfkjcpalihaaLinP
namespace Go.Proofs.Ytdjgfkjcpalihaa
open Go.RowKit

theorem sz1 : (Try.prog.info? 1).map (·.size) = some 1 := by kernel_rfl
theorem pl1 : plainT Try.prog 1 = true := by kernel_rfl
theorem sz2 : (Try.prog.info? 2).map (·.size) = some 1 := by kernel_rfl
theorem pl2 : plainT Try.prog 2 = true := by kernel_rfl
theorem sz3 : (Try.prog.info? 3).map (·.size) = some 1 := by kernel_rfl
theorem pl3 : plainT Try.prog 3 = true := by kernel_rfl
theorem sz4 : (Try.prog.info? 4).map (·.size) = some 1 := by kernel_rfl
theorem pl4 : plainT Try.prog 4 = true := by kernel_rfl
theorem sz5 : (Try.prog.info? 5).map (·.size) = some 1 := by kernel_rfl
theorem pl5 : plainT Try.prog 5 = true := by kernel_rfl
theorem sz6 : (Try.prog.info? 6).map (·.size) = some 1 := by kernel_rfl
theorem pl6 : plainT Try.prog 6 = true := by kernel_rfl
theorem sz7 : (Try.prog.info? 7).map (·.size) = some 4 := by kernel_rfl
theorem ag7 : aggT Try.prog 7 4 = true := by kernel_rfl
theorem fo7_0 : fieldOff Try.prog 7 0 = some 0 := by kernel_rfl
theorem fo7_1 : fieldOff Try.prog 7 1 = some 1 := by kernel_rfl
theorem fo7_2 : fieldOff Try.prog 7 2 = some 2 := by kernel_rfl
theorem fo7_3 : fieldOff Try.prog 7 3 = some 3 := by kernel_rfl
theorem sz8 : (Try.prog.info? 8).map (·.size) = some 4 := by kernel_rfl
theorem ag8 : aggT Try.prog 8 4 = true := by kernel_rfl
theorem fo8_0 : fieldOff Try.prog 8 0 = some 0 := by kernel_rfl
theorem fo8_1 : fieldOff Try.prog 8 1 = some 1 := by kernel_rfl
theorem fo8_2 : fieldOff Try.prog 8 2 = some 2 := by kernel_rfl
theorem fo8_3 : fieldOff Try.prog 8 3 = some 3 := by kernel_rfl
theorem sz9 : (Try.prog.info? 9).map (·.size) = some 1 := by kernel_rfl
theorem pl9 : plainT Try.prog 9 = true := by kernel_rfl
theorem sz10 : (Try.prog.info? 10).map (·.size) = some 1 := by kernel_rfl
theorem pl10 : plainT Try.prog 10 = true := by kernel_rfl
theorem sz11 : (Try.prog.info? 11).map (·.size) = some 1 := by kernel_rfl
theorem pl11 : plainT Try.prog 11 = true := by kernel_rfl
theorem sz12 : (Try.prog.info? 12).map (·.size) = some 1 := by kernel_rfl
theorem pl12 : plainT Try.prog 12 = true := by kernel_rfl
theorem sz13 : (Try.prog.info? 13).map (·.size) = some 2 := by kernel_rfl
theorem ag13 : aggT Try.prog 13 2 = true := by kernel_rfl
theorem fo13_0 : fieldOff Try.prog 13 0 = some 0 := by kernel_rfl
theorem fo13_1 : fieldOff Try.prog 13 1 = some 1 := by kernel_rfl
theorem sz14 : (Try.prog.info? 14).map (·.size) = some 2 := by kernel_rfl
theorem ag14 : aggT Try.prog 14 2 = true := by kernel_rfl
theorem fo14_0 : fieldOff Try.prog 14 0 = some 0 := by kernel_rfl
theorem fo14_1 : fieldOff Try.prog 14 1 = some 1 := by kernel_rfl
theorem sz15 : (Try.prog.info? 15).map (·.size) = some 1 := by kernel_rfl
theorem pl15 : plainT Try.prog 15 = true := by kernel_rfl
theorem sz16 : (Try.prog.info? 16).map (·.size) = some 1 := by kernel_rfl
theorem pl16 : plainT Try.prog 16 = true := by kernel_rfl
theorem sz17 : (Try.prog.info? 17).map (·.size) = some 1 := by kernel_rfl
theorem pl17 : plainT Try.prog 17 = true := by kernel_rfl
theorem sz18 : (Try.prog.info? 18).map (·.size) = some 1 := by kernel_rfl
theorem ag18 : aggT Try.prog 18 1 = true := by kernel_rfl
theorem fo18_0 : fieldOff Try.prog 18 0 = some 0 := by kernel_rfl
theorem sz19 : (Try.prog.info? 19).map (·.size) = some 1 := by kernel_rfl
theorem ag19 : aggT Try.prog 19 1 = true := by kernel_rfl
theorem fo19_0 : fieldOff Try.prog 19 0 = some 0 := by kernel_rfl
theorem sz21 : (Try.prog.info? 21).map (·.size) = some 1 := by kernel_rfl
theorem pl21 : plainT Try.prog 21 = true := by kernel_rfl
theorem sz22 : (Try.prog.info? 22).map (·.size) = some 1 := by kernel_rfl
theorem pl22 : plainT Try.prog 22 = true := by kernel_rfl
theorem sz23 : (Try.prog.info? 23).map (·.size) = some 1 := by kernel_rfl
theorem pl23 : plainT Try.prog 23 = true := by kernel_rfl
theorem sz24 : (Try.prog.info? 24).map (·.size) = some 1 := by kernel_rfl
theorem pl24 : plainT Try.prog 24 = true := by kernel_rfl
theorem sz25 : (Try.prog.info? 25).map (·.size) = some 1 := by kernel_rfl
theorem pl25 : plainT Try.prog 25 = true := by kernel_rfl
theorem sz26 : (Try.prog.info? 26).map (·.size) = some 1 := by kernel_rfl
theorem pl26 : plainT Try.prog 26 = true := by kernel_rfl
theorem sz27 : (Try.prog.info? 27).map (·.size) = some 3 := by kernel_rfl
theorem ag27 : aggT Try.prog 27 3 = true := by kernel_rfl
theorem fo27_0 : fieldOff Try.prog 27 0 = some 0 := by kernel_rfl
theorem fo27_1 : fieldOff Try.prog 27 1 = some 1 := by kernel_rfl
theorem fo27_2 : fieldOff Try.prog 27 2 = some 2 := by kernel_rfl
theorem sz28 : (Try.prog.info? 28).map (·.size) = some 3 := by kernel_rfl
theorem ag28 : aggT Try.prog 28 3 = true := by kernel_rfl
theorem fo28_0 : fieldOff Try.prog 28 0 = some 0 := by kernel_rfl
theorem fo28_1 : fieldOff Try.prog 28 1 = some 1 := by kernel_rfl
theorem fo28_2 : fieldOff Try.prog 28 2 = some 2 := by kernel_rfl
theorem sz30 : (Try.prog.info? 30).map (·.size) = some 1 := by kernel_rfl
theorem pl30 : plainT Try.prog 30 = true := by kernel_rfl
theorem sz31 : (Try.prog.info? 31).map (·.size) = some 1 := by kernel_rfl
theorem pl31 : plainT Try.prog 31 = true := by kernel_rfl
theorem sz32 : (Try.prog.info? 32).map (·.size) = some 1 := by kernel_rfl
theorem pl32 : plainT Try.prog 32 = true := by kernel_rfl
theorem sz33 : (Try.prog.info? 33).map (·.size) = some 1 := by kernel_rfl
theorem pl33 : plainT Try.prog 33 = true := by kernel_rfl
theorem sz34 : (Try.prog.info? 34).map (·.size) = some 2 := by kernel_rfl
theorem ag34 : aggT Try.prog 34 2 = true := by kernel_rfl
theorem fo34_0 : fieldOff Try.prog 34 0 = some 0 := by kernel_rfl
theorem fo34_1 : fieldOff Try.prog 34 1 = some 1 := by kernel_rfl
theorem sz35 : (Try.prog.info? 35).map (·.size) = some 2 := by kernel_rfl
theorem ag35 : aggT Try.prog 35 2 = true := by kernel_rfl
theorem fo35_0 : fieldOff Try.prog 35 0 = some 0 := by kernel_rfl
theorem fo35_1 : fieldOff Try.prog 35 1 = some 1 := by kernel_rfl
theorem sz36 : (Try.prog.info? 36).map (·.size) = some 1 := by kernel_rfl
theorem pl36 : plainT Try.prog 36 = true := by kernel_rfl
theorem sz37 : (Try.prog.info? 37).map (·.size) = some 16 := by kernel_rfl
theorem ag37 : aggT Try.prog 37 16 = true := by kernel_rfl
theorem sz38 : (Try.prog.info? 38).map (·.size) = some 18 := by kernel_rfl
theorem ag38 : aggT Try.prog 38 18 = true := by kernel_rfl
theorem fo38_0 : fieldOff Try.prog 38 0 = some 0 := by kernel_rfl
theorem fo38_1 : fieldOff Try.prog 38 1 = some 1 := by kernel_rfl
theorem fo38_2 : fieldOff Try.prog 38 2 = some 2 := by kernel_rfl
theorem sz39 : (Try.prog.info? 39).map (·.size) = some 18 := by kernel_rfl
theorem ag39 : aggT Try.prog 39 18 = true := by kernel_rfl
theorem fo39_0 : fieldOff Try.prog 39 0 = some 0 := by kernel_rfl
theorem fo39_1 : fieldOff Try.prog 39 1 = some 1 := by kernel_rfl
theorem fo39_2 : fieldOff Try.prog 39 2 = some 2 := by kernel_rfl
theorem sz41 : (Try.prog.info? 41).map (·.size) = some 1 := by kernel_rfl
theorem pl41 : plainT Try.prog 41 = true := by kernel_rfl
theorem sz42 : (Try.prog.info? 42).map (·.size) = some 1 := by kernel_rfl
theorem pl42 : plainT Try.prog 42 = true := by kernel_rfl
theorem sz43 : (Try.prog.info? 43).map (·.size) = some 1 := by kernel_rfl
theorem pl43 : plainT Try.prog 43 = true := by kernel_rfl
theorem sz44 : (Try.prog.info? 44).map (·.size) = some 1 := by kernel_rfl
theorem pl44 : plainT Try.prog 44 = true := by kernel_rfl
theorem sz45 : (Try.prog.info? 45).map (·.size) = some 1 := by kernel_rfl
theorem pl45 : plainT Try.prog 45 = true := by kernel_rfl
theorem sz47 : (Try.prog.info? 47).map (·.size) = some 1 := by kernel_rfl
theorem pl47 : plainT Try.prog 47 = true := by kernel_rfl
theorem sz49 : (Try.prog.info? 49).map (·.size) = some 1 := by kernel_rfl
theorem pl49 : plainT Try.prog 49 = true := by kernel_rfl
theorem sz50 : (Try.prog.info? 50).map (·.size) = some 1 := by kernel_rfl
theorem pl50 : plainT Try.prog 50 = true := by kernel_rfl
theorem sz51 : (Try.prog.info? 51).map (·.size) = some 1 := by kernel_rfl
theorem pl51 : plainT Try.prog 51 = true := by kernel_rfl
theorem sz52 : (Try.prog.info? 52).map (·.size) = some 1 := by kernel_rfl
theorem pl52 : plainT Try.prog 52 = true := by kernel_rfl
theorem sz53 : (Try.prog.info? 53).map (·.size) = some 1 := by kernel_rfl
theorem pl53 : plainT Try.prog 53 = true := by kernel_rfl
theorem sz54 : (Try.prog.info? 54).map (·.size) = some 1 := by kernel_rfl
theorem pl54 : plainT Try.prog 54 = true := by kernel_rfl
theorem sz55 : (Try.prog.info? 55).map (·.size) = some 1 := by kernel_rfl
theorem pl55 : plainT Try.prog 55 = true := by kernel_rfl
theorem sz56 : (Try.prog.info? 56).map (·.size) = some 19 := by kernel_rfl
theorem ag56 : aggT Try.prog 56 19 = true := by kernel_rfl
theorem fo56_0 : fieldOff Try.prog 56 0 = some 0 := by kernel_rfl
theorem fo56_1 : fieldOff Try.prog 56 1 = some 1 := by kernel_rfl
theorem sz57 : (Try.prog.info? 57).map (·.size) = some 19 := by kernel_rfl
theorem ag57 : aggT Try.prog 57 19 = true := by kernel_rfl
theorem fo57_0 : fieldOff Try.prog 57 0 = some 0 := by kernel_rfl
theorem fo57_1 : fieldOff Try.prog 57 1 = some 1 := by kernel_rfl
theorem sz58 : (Try.prog.info? 58).map (·.size) = some 1 := by kernel_rfl
theorem pl58 : plainT Try.prog 58 = true := by kernel_rfl
theorem sz59 : (Try.prog.info? 59).map (·.size) = some 1 := by kernel_rfl
theorem pl59 : plainT Try.prog 59 = true := by kernel_rfl
theorem sz60 : (Try.prog.info? 60).map (·.size) = some 1 := by kernel_rfl
theorem pl60 : plainT Try.prog 60 = true := by kernel_rfl
theorem sz61 : (Try.prog.info? 61).map (·.size) = some 1 := by kernel_rfl
theorem pl61 : plainT Try.prog 61 = true := by kernel_rfl
theorem sz62 : (Try.prog.info? 62).map (·.size) = some 1 := by kernel_rfl
theorem pl62 : plainT Try.prog 62 = true := by kernel_rfl
theorem sz63 : (Try.prog.info? 63).map (·.size) = some 1 := by kernel_rfl
theorem pl63 : plainT Try.prog 63 = true := by kernel_rfl
theorem sz64 : (Try.prog.info? 64).map (·.size) = some 1 := by kernel_rfl
theorem pl64 : plainT Try.prog 64 = true := by kernel_rfl
theorem sz65 : (Try.prog.info? 65).map (·.size) = some 1 := by kernel_rfl
theorem pl65 : plainT Try.prog 65 = true := by kernel_rfl
theorem sz66 : (Try.prog.info? 66).map (·.size) = some 1 := by kernel_rfl
theorem pl66 : plainT Try.prog 66 = true := by kernel_rfl
theorem sz67 : (Try.prog.info? 67).map (·.size) = some 1 := by kernel_rfl
theorem pl67 : plainT Try.prog 67 = true := by kernel_rfl
theorem sz68 : (Try.prog.info? 68).map (·.size) = some 1 := by kernel_rfl
theorem pl68 : plainT Try.prog 68 = true := by kernel_rfl
theorem sz69 : (Try.prog.info? 69).map (·.size) = some 1 := by kernel_rfl
theorem pl69 : plainT Try.prog 69 = true := by kernel_rfl
theorem sz71 : (Try.prog.info? 71).map (·.size) = some 1 := by kernel_rfl
theorem pl71 : plainT Try.prog 71 = true := by kernel_rfl
theorem sz72 : (Try.prog.info? 72).map (·.size) = some 1 := by kernel_rfl
theorem pl72 : plainT Try.prog 72 = true := by kernel_rfl
theorem sz73 : (Try.prog.info? 73).map (·.size) = some 2 := by kernel_rfl
theorem ag73 : aggT Try.prog 73 2 = true := by kernel_rfl
theorem fo73_0 : fieldOff Try.prog 73 0 = some 0 := by kernel_rfl
theorem fo73_1 : fieldOff Try.prog 73 1 = some 1 := by kernel_rfl
theorem sz74 : (Try.prog.info? 74).map (·.size) = some 2 := by kernel_rfl
theorem ag74 : aggT Try.prog 74 2 = true := by kernel_rfl
theorem fo74_0 : fieldOff Try.prog 74 0 = some 0 := by kernel_rfl
theorem fo74_1 : fieldOff Try.prog 74 1 = some 1 := by kernel_rfl
theorem sz75 : (Try.prog.info? 75).map (·.size) = some 1 := by kernel_rfl
theorem pl75 : plainT Try.prog 75 = true := by kernel_rfl
theorem sz76 : (Try.prog.info? 76).map (·.size) = some 1 := by kernel_rfl
theorem pl76 : plainT Try.prog 76 = true := by kernel_rfl
theorem sz77 : (Try.prog.info? 77).map (·.size) = some 1 := by kernel_rfl
theorem pl77 : plainT Try.prog 77 = true := by kernel_rfl
theorem sz78 : (Try.prog.info? 78).map (·.size) = some 1 := by kernel_rfl
theorem pl78 : plainT Try.prog 78 = true := by kernel_rfl
theorem sz79 : (Try.prog.info? 79).map (·.size) = some 1 := by kernel_rfl
theorem pl79 : plainT Try.prog 79 = true := by kernel_rfl
theorem sz80 : (Try.prog.info? 80).map (·.size) = some 1 := by kernel_rfl
theorem pl80 : plainT Try.prog 80 = true := by kernel_rfl
theorem sz81 : (Try.prog.info? 81).map (·.size) = some 1 := by kernel_rfl
theorem pl81 : plainT Try.prog 81 = true := by kernel_rfl
theorem sz82 : (Try.prog.info? 82).map (·.size) = some 1 := by kernel_rfl
theorem pl82 : plainT Try.prog 82 = true := by kernel_rfl
theorem sz83 : (Try.prog.info? 83).map (·.size) = some 4 := by kernel_rfl
theorem ag83 : aggT Try.prog 83 4 = true := by kernel_rfl
theorem fo83_0 : fieldOff Try.prog 83 0 = some 0 := by kernel_rfl
theorem fo83_1 : fieldOff Try.prog 83 1 = some 1 := by kernel_rfl
theorem fo83_2 : fieldOff Try.prog 83 2 = some 2 := by kernel_rfl
theorem fo83_3 : fieldOff Try.prog 83 3 = some 3 := by kernel_rfl
theorem sz84 : (Try.prog.info? 84).map (·.size) = some 4 := by kernel_rfl
theorem ag84 : aggT Try.prog 84 4 = true := by kernel_rfl
theorem fo84_0 : fieldOff Try.prog 84 0 = some 0 := by kernel_rfl
theorem fo84_1 : fieldOff Try.prog 84 1 = some 1 := by kernel_rfl
theorem fo84_2 : fieldOff Try.prog 84 2 = some 2 := by kernel_rfl
theorem fo84_3 : fieldOff Try.prog 84 3 = some 3 := by kernel_rfl
theorem sz88 : (Try.prog.info? 88).map (·.size) = some 1 := by kernel_rfl
theorem pl88 : plainT Try.prog 88 = true := by kernel_rfl
theorem sz89 : (Try.prog.info? 89).map (·.size) = some 1 := by kernel_rfl
theorem pl89 : plainT Try.prog 89 = true := by kernel_rfl
theorem sz90 : (Try.prog.info? 90).map (·.size) = some 1 := by kernel_rfl
theorem pl90 : plainT Try.prog 90 = true := by kernel_rfl
theorem sz91 : (Try.prog.info? 91).map (·.size) = some 1 := by kernel_rfl
theorem pl91 : plainT Try.prog 91 = true := by kernel_rfl
theorem sz92 : (Try.prog.info? 92).map (·.size) = some 1 := by kernel_rfl
theorem pl92 : plainT Try.prog 92 = true := by kernel_rfl
theorem sz93 : (Try.prog.info? 93).map (·.size) = some 1 := by kernel_rfl
theorem pl93 : plainT Try.prog 93 = true := by kernel_rfl
theorem sz94 : (Try.prog.info? 94).map (·.size) = some 11 := by kernel_rfl
theorem ag94 : aggT Try.prog 94 11 = true := by kernel_rfl
theorem fo94_0 : fieldOff Try.prog 94 0 = some 0 := by kernel_rfl
theorem fo94_1 : fieldOff Try.prog 94 1 = some 1 := by kernel_rfl
theorem fo94_2 : fieldOff Try.prog 94 2 = some 2 := by kernel_rfl
theorem fo94_3 : fieldOff Try.prog 94 3 = some 3 := by kernel_rfl
theorem fo94_4 : fieldOff Try.prog 94 4 = some 4 := by kernel_rfl
theorem fo94_5 : fieldOff Try.prog 94 5 = some 5 := by kernel_rfl
theorem fo94_6 : fieldOff Try.prog 94 6 = some 6 := by kernel_rfl
theorem fo94_7 : fieldOff Try.prog 94 7 = some 7 := by kernel_rfl
theorem fo94_8 : fieldOff Try.prog 94 8 = some 8 := by kernel_rfl
theorem fo94_9 : fieldOff Try.prog 94 9 = some 9 := by kernel_rfl
theorem fo94_10 : fieldOff Try.prog 94 10 = some 10 := by kernel_rfl
theorem sz95 : (Try.prog.info? 95).map (·.size) = some 11 := by kernel_rfl
theorem ag95 : aggT Try.prog 95 11 = true := by kernel_rfl
theorem fo95_0 : fieldOff Try.prog 95 0 = some 0 := by kernel_rfl
theorem fo95_1 : fieldOff Try.prog 95 1 = some 1 := by kernel_rfl
theorem fo95_2 : fieldOff Try.prog 95 2 = some 2 := by kernel_rfl
theorem fo95_3 : fieldOff Try.prog 95 3 = some 3 := by kernel_rfl
theorem fo95_4 : fieldOff Try.prog 95 4 = some 4 := by kernel_rfl
theorem fo95_5 : fieldOff Try.prog 95 5 = some 5 := by kernel_rfl
theorem fo95_6 : fieldOff Try.prog 95 6 = some 6 := by kernel_rfl
theorem fo95_7 : fieldOff Try.prog 95 7 = some 7 := by kernel_rfl
theorem fo95_8 : fieldOff Try.prog 95 8 = some 8 := by kernel_rfl
theorem fo95_9 : fieldOff Try.prog 95 9 = some 9 := by kernel_rfl
theorem fo95_10 : fieldOff Try.prog 95 10 = some 10 := by kernel_rfl
theorem nm2 : (Try.f2.name == "runtime.NumGoroutine") = false := by kernel_rfl
theorem nm3 : (Try.f3.name == "runtime.NumGoroutine") = false := by kernel_rfl
theorem nm4 : (Try.f4.name == "runtime.NumGoroutine") = false := by kernel_rfl
theorem nm5 : (Try.f5.name == "runtime.NumGoroutine") = false := by kernel_rfl
theorem nm6 : (Try.f6.name == "runtime.NumGoroutine") = false := by kernel_rfl
theorem nm7 : (Try.f7.name == "runtime.NumGoroutine") = false := by kernel_rfl
theorem nm8 : (Try.f8.name == "runtime.NumGoroutine") = false := by kernel_rfl
theorem nm9 : (Try.f9.name == "runtime.NumGoroutine") = false := by kernel_rfl
theorem nm10 : (Try.f10.name == "runtime.NumGoroutine") = false := by kernel_rfl
theorem nm11 : (Try.f11.name == "runtime.NumGoroutine") = false := by kernel_rfl
theorem nm12 : (Try.f12.name == "runtime.NumGoroutine") = false := by kernel_rfl
theorem nm13 : (Try.f13.name == "runtime.NumGoroutine") = false := by kernel_rfl
theorem nm14 : (Try.f14.name == "runtime.NumGoroutine") = false := by kernel_rfl
theorem nm15 : (Try.f15.name == "runtime.NumGoroutine") = false := by kernel_rfl
theorem nm16 : (Try.f16.name == "runtime.NumGoroutine") = false := by kernel_rfl
theorem nm17 : (Try.f17.name == "runtime.NumGoroutine") = false := by kernel_rfl
theorem nm18 : (Try.f18.name == "runtime.NumGoroutine") = false := by kernel_rfl
theorem nm19 : (Try.f19.name == "runtime.NumGoroutine") = false := by kernel_rfl
theorem nm20 : (Try.f20.name == "runtime.NumGoroutine") = false := by kernel_rfl
theorem nm21 : (Try.f21.name == "runtime.NumGoroutine") = false := by kernel_rfl
theorem nm22 : (Try.f22.name == "runtime.NumGoroutine") = false := by kernel_rfl
theorem nm23 : (Try.f23.name == "runtime.NumGoroutine") = false := by kernel_rfl
theorem nm24 : (Try.f24.name == "runtime.NumGoroutine") = false := by kernel_rfl
theorem nm25 : (Try.f25.name == "runtime.NumGoroutine") = false := by kernel_rfl
theorem nm26 : (Try.f26.name == "runtime.NumGoroutine") = false := by kernel_rfl
theorem nm27 : (Try.f27.name == "runtime.NumGoroutine") = false := by kernel_rfl
theorem nm28 : (Try.f28.name == "runtime.NumGoroutine") = false := by kernel_rfl
theorem nm29 : (Try.f29.name == "runtime.NumGoroutine") = false := by kernel_rfl
theorem nm30 : (Try.f30.name == "runtime.NumGoroutine") = false := by kernel_rfl
theorem nm31 : (Try.f31.name == "runtime.NumGoroutine") = false := by kernel_rfl
theorem nm32 : (Try.f32.name == "runtime.NumGoroutine") = false := by kernel_rfl
theorem nm33 : (Try.f33.name == "runtime.NumGoroutine") = false := by kernel_rfl
theorem nm34 : (Try.f34.name == "runtime.NumGoroutine") = false := by kernel_rfl
theorem nm35 : (Try.f35.name == "runtime.NumGoroutine") = false := by kernel_rfl
theorem nm36 : (Try.f36.name == "runtime.NumGoroutine") = false := by kernel_rfl
theorem nm37 : (Try.f37.name == "runtime.NumGoroutine") = false := by kernel_rfl
theorem nm38 : (Try.f38.name == "runtime.NumGoroutine") = false := by kernel_rfl
theorem nm39 : (Try.f39.name == "runtime.NumGoroutine") = false := by kernel_rfl
theorem nm40 : (Try.f40.name == "runtime.NumGoroutine") = false := by kernel_rfl
theorem nm41 : (Try.f41.name == "runtime.NumGoroutine") = false := by kernel_rfl
theorem nm42 : (Try.f42.name == "runtime.NumGoroutine") = false := by kernel_rfl
theorem nm43 : (Try.f43.name == "runtime.NumGoroutine") = false := by kernel_rfl
set_option maxRecDepth 100000 in
set_option maxHeartbeats 4000000 in
theorem num_c (n : Int) (w : World) : Calls Try.prog 20 #[.int .i64 n] w (Ret fun v w' => v = .int .i64 n ∧ w' = w) := by
  refine fx_enter Try.func20 rfl (N := (4, [])) (T := [(0, .int .i64 n)]) rfl (show 1 ≤ 4 by decide) ⟨rfl, trivial⟩ fun a fr => ?_
  refine wp_seq ?_
  refine wp_region_lit ?_  -- region 0
  refine fx_val (v := .int .i64 0) fr rfl rfl (by first | decide | simp) (x_assign rfl rfl) ?_
  clear fr a; intro a fr
  refine wpList_nil ?_
  refine fx_next ?_
  refine wp_seq ?_
  refine wp_region_lit ?_  -- region 1
  refine fx_val (v := .int .i64 n) fr rfl rfl (by first | decide | simp) (x_move rfl (fr.ev rfl)) ?_
  clear fr a; intro a fr
  refine fx_val (v := .int .i64 n) fr rfl rfl (by first | decide | simp) (x_assign rfl (fr.ev rfl)) ?_
  clear fr a; intro a fr
  refine wpList_nil ?_
  refine fx_next ?_
  refine wp_ret ?_
  refine fx_ret fr [.tmp 2] [.int .i64 n] rfl ⟨rfl, trivial⟩ rfl ?_
  exact ⟨_, rfl, rfl, rfl⟩
set_option maxRecDepth 100000 in
set_option maxHeartbeats 4000000 in
theorem none_nil (w : World) : Calls Try.prog 31 #[.pointer none] w (Ret fun v w' => v = .bool true ∧ w' = w) := by
  refine fx_enter Try.func31 rfl (N := (12, [])) (T := [(0, .pointer none)]) rfl (show 1 ≤ 12 by decide) ⟨rfl, trivial⟩ fun a fr => ?_
  refine wp_seq ?_
  refine wp_region_lit ?_  -- region 0
  refine fx_val (v := .bool false) fr rfl rfl (by first | decide | simp) (x_assign rfl rfl) ?_
  clear fr a; intro a fr
  refine wpList_nil ?_
  refine fx_next ?_
  refine wp_seq ?_
  refine wp_region_lit ?_  -- region 1
  refine fx_val (v := .pointer none) fr rfl rfl (by first | decide | simp) (x_move rfl (fr.ev rfl)) ?_
  clear fr a; intro a fr
  refine fx_val (v := .bool true) fr rfl rfl (by first | decide | simp) (x_peql Try.underlying25 rfl (fr.ev rfl) rfl rfl) ?_
  clear fr a; intro a fr
  refine fx_val (v := .bool true) fr rfl rfl (by first | decide | simp) (x_move rfl (fr.ev rfl)) ?_
  clear fr a; intro a fr
  refine fx_skip fr (fr.unwant rfl rfl rfl (by decide)) rfl (by first | decide | simp) ?_
  clear fr a; intro a fr
  refine fx_skip fr (fr.unwant rfl rfl rfl (by decide)) rfl (by first | decide | simp) ?_
  clear fr a; intro a fr
  refine fx_skip fr (fr.unwant rfl rfl rfl (by decide)) rfl (by first | decide | simp) ?_
  clear fr a; intro a fr
  refine fx_skip fr (fr.unwant rfl rfl rfl (by decide)) rfl (by first | decide | simp) ?_
  clear fr a; intro a fr
  refine fx_skip fr (fr.unwant rfl rfl rfl (by decide)) rfl (by first | decide | simp) ?_
  clear fr a; intro a fr
  refine fx_val (v := .bool true) fr rfl rfl (by first | decide | simp) (x_pick_t rfl (fr.ev rfl) rfl) ?_
  clear fr a; intro a fr
  refine fx_val (v := .bool true) fr rfl rfl (by first | decide | simp) (x_assign rfl (fr.ev rfl)) ?_
  clear fr a; intro a fr
  refine wpList_nil ?_
  refine fx_next ?_
  refine wp_ret ?_
  refine fx_ret fr [.tmp 2] [.bool true] rfl ⟨rfl, trivial⟩ rfl ?_
  exact ⟨_, rfl, rfl, rfl⟩
set_option maxRecDepth 100000 in
set_option maxHeartbeats 4000000 in
theorem none_some {w : World} {b : Nat} {v : Value} {ways : Int} (hB : Blk w b 74 #[v, .int .i64 ways]) (hm : ways ≠ 0) : Calls Try.prog 31 #[.pointer (some ⟨b, 0, none⟩)] w (Ret fun v w' => v = .bool false ∧ w' = w) := by
  refine fx_enter Try.func31 rfl (N := (12, [])) (T := [(0, .pointer (some ⟨b, 0, none⟩))]) rfl (show 1 ≤ 12 by decide) ⟨rfl, trivial⟩ fun a fr => ?_
  refine wp_seq ?_
  refine wp_region_lit ?_  -- region 0
  refine fx_val (v := .bool false) fr rfl rfl (by first | decide | simp) (x_assign rfl rfl) ?_
  clear fr a; intro a fr
  refine wpList_nil ?_
  refine fx_next ?_
  refine wp_seq ?_
  refine wp_region_lit ?_  -- region 1
  refine fx_val (v := .pointer (some ⟨b, 0, none⟩)) fr rfl rfl (by first | decide | simp) (x_move rfl (fr.ev rfl)) ?_
  clear fr a; intro a fr
  refine fx_val (v := .bool false) fr rfl rfl (by first | decide | simp) (x_peql Try.underlying25 rfl (fr.ev rfl) rfl rfl) ?_
  clear fr a; intro a fr
  refine fx_val (v := .bool false) fr rfl rfl (by first | decide | simp) (x_move rfl (fr.ev rfl)) ?_
  clear fr a; intro a fr
  refine fx_val (v := .pointer (some ⟨b, 0, none⟩)) fr (fr.want rfl rfl rfl) rfl (by first | decide | simp) (x_move rfl (fr.ev rfl)) ?_
  clear fr a; intro a fr
  refine fx_val (v := .pointer (some ⟨b, 0, none⟩)) fr (fr.want rfl rfl rfl) rfl (by first | decide | simp) (x_nilCheck rfl (fr.ev rfl)) ?_
  clear fr a; intro a fr
  refine fx_val (v := .pointer (some ⟨b, 1, none⟩)) fr (fr.want rfl rfl rfl) rfl (by first | decide | simp) (x_fieldAddr fo74_1 rfl (fr.ev rfl) rfl) ?_
  clear fr a; intro a fr
  refine fx_val (v := .int .i64 ways) fr (fr.want rfl rfl rfl) rfl (by first | decide | simp) (x_load1 pl3 rfl (fr.ev rfl) (hB.cell 1 rfl)) ?_
  clear fr a; intro a fr
  refine fx_val (v := .bool (decide (ways = 0))) fr (fr.want rfl rfl rfl) rfl (by first | decide | simp) (x_eql rfl (fr.ev rfl) rfl rfl) ?_
  clear fr a; intro a fr
  refine fx_val (v := .bool (decide (ways = 0))) fr rfl rfl (by first | decide | simp) (x_pick_f rfl (fr.ev rfl) (fr.ev rfl)) ?_
  clear fr a; intro a fr
  refine fx_val (v := .bool (decide (ways = 0))) fr rfl rfl (by first | decide | simp) (x_assign rfl (fr.ev rfl)) ?_
  clear fr a; intro a fr
  refine wpList_nil ?_
  refine fx_next ?_
  refine wp_ret ?_
  refine fx_ret fr [.tmp 2] [.bool (decide (ways = 0))] rfl ⟨rfl, trivial⟩ rfl ?_
  exact ⟨_, rfl, congrArg Value.bool (by simp [hm]), rfl⟩
set_option maxRecDepth 100000 in
set_option maxHeartbeats 4000000 in
theorem closure_c (x : Ln) {w : World} {bx : Nat} {number : Int} (hX : Blk w bx 33 #[.int .u32 number]) : Calls Try.prog 42 #[.agg (lnE.arr x), .pointer (some ⟨bx, 0, none⟩)] w (Ret fun v w' => v = .bool (decide (x.num = number)) ∧ New w w') := by
  have hF := Only.refl (fun _ => False) w
  refine fx_enter Try.func42 rfl (N := (8, [])) (T := [(0, .agg (lnE.arr x)), (1, .pointer (some ⟨bx, 0, none⟩))]) rfl (show 2 ≤ 8 by decide) ⟨rfl, rfl, trivial⟩ fun a fr => ?_
  refine wp_seq ?_
  refine wp_region_lit ?_  -- region 0
  refine fx_new fr rfl rfl (by first | decide | simp) (x_box (cs := lnE.arr x) rfl (fr.ev rfl) rfl) ?_
  clear fr a
  intro b1 w2 hN3 B4 hb5 a fr
  have ne_bx_b1 : NE bx b1 := NE.mk (Nat.lt_of_lt_of_le hX.lt hb5)
  have g_b1 := Nat.le_trans hF.size hb5
  replace hX := hX.new hN3
  replace hF := hF.trNew hN3
  refine fx_val (v := .bool false) fr rfl rfl (by first | decide | simp) (x_assign rfl rfl) ?_
  clear fr a; intro a fr
  refine wpList_nil ?_
  refine fx_next ?_
  refine wp_seq ?_
  refine wp_region_lit ?_  -- region 1
  refine fx_val (v := .pointer (some ⟨b1, 0, none⟩)) fr rfl rfl (by first | decide | simp) (x_fieldAddr fo39_0 rfl (fr.ev rfl) rfl) ?_
  clear fr a; intro a fr
  refine fx_val (v := .int .u32 x.num) fr rfl rfl (by first | decide | simp) (x_load1 pl33 rfl (fr.ev rfl) (B4.cell 0 rfl)) ?_
  clear fr a; intro a fr
  refine fx_val (v := .int .u32 number) fr rfl rfl (by first | decide | simp) (x_load1 pl33 rfl (fr.ev rfl) (hX.cell 0 rfl)) ?_
  clear fr a; intro a fr
  refine fx_val (v := .bool (decide (x.num = number))) fr rfl rfl (by first | decide | simp) (x_eql rfl (fr.ev rfl) (fr.ev rfl) rfl) ?_
  clear fr a; intro a fr
  refine fx_val (v := .bool (decide (x.num = number))) fr rfl rfl (by first | decide | simp) (x_assign rfl (fr.ev rfl)) ?_
  clear fr a; intro a fr
  refine wpList_nil ?_
  refine fx_next ?_
  refine wp_ret ?_
  refine fx_ret fr [.tmp 3] [.bool (decide (x.num = number))] rfl ⟨rfl, trivial⟩ rfl ?_
  exact ⟨_, rfl, rfl, hF⟩
set_option maxRecDepth 100000 in
set_option maxHeartbeats 4000000 in
theorem index_c {w : World} {A : Option Addr} {cap : Nat} {l : List Ln} (hV : View lnE w A cap l) {bx : Nat} {number : Int} (hX : Blk w bx 33 #[.int .u32 number]) : Calls Try.prog 41 #[.slice A l.length cap, .func (.func 42) #[] #[.pointer (some ⟨bx, 0, none⟩)]] w (Ret fun v w' => v = .int .i64 (fndI l number) ∧ New w w') := by
  have hVl := hV.len
  unfold maxLen at hVl
  have hF := Only.refl (fun _ => False) w
  refine fx_enter Try.func41 rfl (N := (19, [])) (T := [(0, .slice A l.length cap), (1, .func (.func 42) #[] #[.pointer (some ⟨bx, 0, none⟩)])]) rfl (show 2 ≤ 19 by decide) ⟨rfl, rfl, trivial⟩ fun a fr => ?_
  refine wp_seq ?_
  refine wp_region_lit ?_  -- region 0
  refine fx_val (v := .int .i64 0) fr rfl rfl (by first | decide | simp) (x_assign rfl rfl) ?_
  clear fr a; intro a fr
  refine wpList_nil ?_
  refine fx_next ?_
  refine wp_seq ?_
  refine wp_seq ?_
  refine wp_region_lit ?_  -- region 1
  refine fx_val (v := .slice A l.length cap) fr rfl rfl (by first | decide | simp) (x_move rfl (fr.ev rfl)) ?_
  clear fr a; intro a fr
  refine fx_val (v := .int .i64 ((l.length : Nat) : Int)) fr rfl rfl (by first | decide | simp) (x_len Try.underlying26 rfl (fr.ev rfl)) ?_
  clear fr a; intro a fr
  refine fx_val (v := .int .i64 0) fr rfl rfl (by first | decide | simp) (x_move rfl rfl) ?_
  clear fr a; intro a fr
  refine wpList_nil ?_
  refine fx_next ?_
  refine wp_block ?_
  refine fx_loop (fun nM a wL => ∃ i : Nat, nM = l.length - i ∧ Fr (19, []) [(0, .slice A l.length cap), (1, .func (.func 42) #[] #[.pointer (some ⟨bx, 0, none⟩)]), (7, .int .i64 ((l.length : Nat) : Int)), (8, .int .i64 ((i : Nat) : Int))] a ∧ Only (fun _ => False) w wL ∧ View lnE wL A cap l ∧ Blk wL bx 33 #[.int .u32 number] ∧ i ≤ l.length ∧ (∀ j, j < i → ¬ (l.getD j ln0).num = number)) (n0 := _) ⟨0, rfl, fr.sub ⟨rfl, rfl, rfl, rfl, trivial⟩, hF, hV, hX, by omega, (fun j hj => absurd hj (by omega))⟩ ?_
  rintro n2 a w1 ⟨i, rfl, fr, hF, hV, hX, hi, hall⟩
  refine wp_seq ?_
  refine wp_region_lit ?_  -- region 2
  refine fx_val (v := .bool (decide (((i : Nat) : Int) < ((l.length : Nat) : Int)))) fr rfl rfl (by first | decide | simp) (x_lss rfl (fr.ev rfl) (fr.ev rfl) rfl) ?_
  clear fr a; intro a fr
  refine wpList_nil ?_
  refine fx_next ?_
  refine wp_seq ?_
  refine fx_cond fr rfl (fun hc3 => ?_) (fun hc3 => ?_)
  · skip
    have hc3 := of_decide_eq_true hc3
    refine wp_skip ?_
    refine fx_next ?_
    refine wp_seq ?_
    refine wp_block ?_
    refine wp_seq ?_
    refine wp_region_lit ?_  -- region 3
    refine fx_val (v := .int .i64 ((i : Nat) : Int)) fr rfl rfl (by first | decide | simp) (x_move rfl (fr.ev rfl)) ?_
    clear fr a; intro a fr
    refine fx_val (v := .int .i64 ((i : Nat) : Int)) fr rfl rfl (by first | decide | simp) (x_assign rfl (fr.ev rfl)) ?_
    clear fr a; intro a fr
    refine wpList_nil ?_
    refine fx_next ?_
    refine wp_seq ?_
    refine wp_region_lit ?_  -- region 4
    refine fx_val (v := .func (.func 42) #[] #[.pointer (some ⟨bx, 0, none⟩)]) fr rfl rfl (by first | decide | simp) (x_move rfl (fr.ev rfl)) ?_
    clear fr a; intro a fr
    refine fx_val (v := .slice A l.length cap) fr rfl rfl (by first | decide | simp) (x_move rfl (fr.ev rfl)) ?_
    clear fr a; intro a fr
    refine fx_val (v := .int .i64 ((i : Nat) : Int)) fr rfl rfl (by first | decide | simp) (x_move rfl (fr.ev rfl)) ?_
    clear fr a; intro a fr
    obtain ⟨g4, o5, hA6⟩ := (hV).some_ (by omega)
    refine fx_val (v := .pointer (some ⟨g4, o5 + i * 18, none⟩)) fr rfl rfl (by first | decide | simp) (x_indexV Try.underlying26 sz39 rfl (fr.ev rfl) hA6 (fr.ev rfl) (by omega) rfl) ?_
    clear fr a; intro a fr
    refine fx_val (v := .agg (lnE.arr (l.getD i ln0))) fr rfl rfl (by first | decide | simp) (x_loadE (E := lnE) ag39 rfl rfl (fr.ev rfl) ((hV).elem hA6 i ln0 (by omega))) ?_
    clear fr a; intro a fr
    refine fx_call fr rfl rfl (by first | decide | simp) (x_callv (all := #[.agg (lnE.arr (l.getD i ln0)), .pointer (some ⟨bx, 0, none⟩)]) (vs := [.agg (lnE.arr (l.getD i ln0))]) rfl (fr.ev rfl) ⟨(fr.ev rfl), trivial⟩ rfl Try.func42 nm42 rfl) (closure_c (l.getD i ln0) hX) ?_
    clear fr a
    rintro v w7 ⟨rfl, hN8⟩ a fr
    replace hV := hV.new hN8
    replace hX := hX.new hN8
    replace hF := hF.trNew hN8
    refine wpList_nil ?_
    refine fx_next ?_
    refine fx_cond fr rfl (fun hc9 => ?_) (fun hc9 => ?_)
    · skip
      have hc9 := of_decide_eq_true hc9
      refine wp_seq ?_
      refine wp_region_lit ?_  -- region 5
      refine fx_val (v := .int .i64 ((i : Nat) : Int)) fr rfl rfl (by first | decide | simp) (x_move rfl (fr.ev rfl)) ?_
      clear fr a; intro a fr
      refine fx_val (v := .int .i64 ((i : Nat) : Int)) fr rfl rfl (by first | decide | simp) (x_assign rfl (fr.ev rfl)) ?_
      clear fr a; intro a fr
      refine wpList_nil ?_
      refine fx_next ?_
      refine wp_ret ?_
      refine fx_rb ?_
      refine fx_rt ?_
      refine fx_rt ?_
      refine fx_rb ?_
      refine fx_rt ?_
      refine fx_ret fr [.tmp 4] [.int .i64 ((i : Nat) : Int)] rfl ⟨rfl, trivial⟩ rfl ?_
      exact ⟨_, rfl, congrArg (Value.int .i64) (fnd_yes (by omega) hc9 hall).symm, hF⟩
    · skip
      have hc9 := of_decide_eq_false hc9
      refine wp_skip ?_
      refine fx_blk ?_
      refine fx_next ?_
      refine wp_region_lit ?_  -- region 6
      refine fx_val (v := .int .i64 ((i + 1 : Nat) : Int)) fr rfl rfl (by first | decide | simp) (x_add rfl (fr.ev rfl) rfl (i64w (r := ((i + 1 : Nat) : Int)) (by omega) (by omega))) ?_
      clear fr a; intro a fr
      refine fx_val (v := .int .i64 ((i + 1 : Nat) : Int)) fr rfl rfl (by first | decide | simp) (x_move rfl (fr.ev rfl)) ?_
      clear fr a; intro a fr
      refine wpList_nil ?_
      refine fx_next ?_
      exact ⟨_, by omega, (i + 1), rfl, fr.sub ⟨rfl, rfl, rfl, rfl, trivial⟩, hF, hV, hX, by omega, fun j hj => by rcases Nat.lt_succ_iff_lt_or_eq.1 hj with h | rfl; exact hall j h; exact hc9⟩
  · skip
    have hc3 := of_decide_eq_false hc3
    refine wp_exit ?_
    refine fx_xt ?_
    refine fx_xt ?_
    refine fx_xx ?_
    refine fx_next ?_
    refine wp_seq ?_
    refine wp_region_lit ?_  -- region 7
    refine fx_val (v := .int .i64 (-1)) fr rfl rfl (by first | decide | simp) (x_assign rfl rfl) ?_
    clear fr a; intro a fr
    refine wpList_nil ?_
    refine fx_next ?_
    refine wp_ret ?_
    refine fx_ret fr [.tmp 4] [.int .i64 (-1)] rfl ⟨rfl, trivial⟩ rfl ?_
    exact ⟨_, rfl, congrArg (Value.int .i64) (fnd_no fun j hj => hall j (by omega)).symm, hF⟩
set_option maxRecDepth 100000 in
set_option maxHeartbeats 4000000 in
theorem clone_nil (w : World) : Calls Try.prog 37 #[.slice none 0 0] w (Ret fun v w' => v = .slice none 0 0 ∧ w' = w) := by
  refine fx_enter Try.func37 rfl (N := (8, [])) (T := [(0, .slice none 0 0)]) rfl (show 1 ≤ 8 by decide) ⟨rfl, trivial⟩ fun a fr => ?_
  refine wp_seq ?_
  refine wp_region_lit ?_  -- region 0
  refine fx_val (v := .slice none 0 0) fr rfl rfl (by first | decide | simp) (x_assign rfl rfl) ?_
  clear fr a; intro a fr
  refine wpList_nil ?_
  refine fx_next ?_
  refine wp_seq ?_
  refine wp_seq ?_
  refine wp_region_lit ?_  -- region 1
  refine fx_val (v := .slice none 0 0) fr rfl rfl (by first | decide | simp) (x_move rfl (fr.ev rfl)) ?_
  clear fr a; intro a fr
  refine fx_val (v := .bool true) fr rfl rfl (by first | decide | simp) (x_seql Try.underlying26 rfl (fr.ev rfl) rfl rfl) ?_
  clear fr a; intro a fr
  refine wpList_nil ?_
  refine fx_next ?_
  refine fx_cond_t fr rfl ?_
  refine wp_seq ?_
  refine wp_region_lit ?_  -- region 2
  refine fx_val (v := .slice none 0 0) fr rfl rfl (by first | decide | simp) (x_assign rfl rfl) ?_
  clear fr a; intro a fr
  refine wpList_nil ?_
  refine fx_next ?_
  refine wp_ret ?_
  refine fx_rt ?_
  refine fx_ret fr [.tmp 2] [.slice none 0 0] rfl ⟨rfl, trivial⟩ rfl ?_
  exact ⟨_, rfl, rfl, rfl⟩
set_option maxRecDepth 100000 in
set_option maxHeartbeats 4000000 in
theorem clone_some {w : World} {A : Option Addr} {cap : Nat} {l : List Ln} (hV : View lnE w A cap l) {ad : Addr} (hA : A = some ad) (hl : l.length ≤ 100000) : Calls Try.prog 37 #[.slice A l.length cap] w (Ret fun v w' => ∃ A' cap', v = .slice A' (l).length cap' ∧ Own lnE w' A' cap' (l) ∧ (∀ g, inA A' g → w.heap.size ≤ g) ∧ New w w') := by
  have hVl := hV.len
  unfold maxLen at hVl
  have hF := Only.refl (fun _ => False) w
  refine fx_enter Try.func37 rfl (N := (8, [])) (T := [(0, .slice A l.length cap)]) rfl (show 1 ≤ 8 by decide) ⟨rfl, trivial⟩ fun a fr => ?_
  refine wp_seq ?_
  refine wp_region_lit ?_  -- region 0
  refine fx_val (v := .slice none 0 0) fr rfl rfl (by first | decide | simp) (x_assign rfl rfl) ?_
  clear fr a; intro a fr
  refine wpList_nil ?_
  refine fx_next ?_
  refine wp_seq ?_
  refine wp_seq ?_
  refine wp_region_lit ?_  -- region 1
  refine fx_val (v := .slice A l.length cap) fr rfl rfl (by first | decide | simp) (x_move rfl (fr.ev rfl)) ?_
  clear fr a; intro a fr
  refine fx_val (v := .bool false) fr rfl rfl (by first | decide | simp) (x_seql Try.underlying26 rfl (fr.ev rfl) rfl (by rw [hA]; rfl)) ?_
  clear fr a; intro a fr
  refine wpList_nil ?_
  refine fx_next ?_
  refine fx_cond_f fr rfl ?_
  refine wp_skip ?_
  refine fx_next ?_
  refine wp_seq ?_
  refine wp_region_lit ?_  -- region 3
  refine fx_build0 (E := lnE) elLn fr rfl rfl (by decide) rfl ?_
  clear fr a
  intro A1 w2 hN3 O4 hA5 a fr
  have ap2_A_A1 : Apart2 A A1 := (new_apart2 hA5 fun _ hg => hV.lt hg).symm
  have gA_A1 := gA_new hF hA5
  replace hV := hV.new hN3
  replace hF := hF.trNew hN3
  refine fx_val (v := .slice A l.length cap) fr rfl rfl (by first | decide | simp) (x_move rfl (fr.ev rfl)) ?_
  clear fr a; intro a fr
  refine fx_append (E := lnE) (l := []) (l' := l) elLn fr rfl rfl (by decide) rfl (fr.ev rfl) (fr.ev rfl) (by first | rfl | (simp; done) | (simp; omega)) (by first | rfl | (simp; done) | (simp; omega)) O4 hV (by first | omega | (simp; omega)) (by unfold maxLen; first | omega | (simp; omega)) ?_
  clear fr a
  intro A6 cap7 w8 O9 hO10 mv11 a fr
  have ap2_A6_A : Apart2 A6 A := moved_apart2 mv11 ap2_A_A1.symm fun _ hg => hV.lt hg
  have gA_A6 := gA_moved hF mv11 gA_A1
  replace hV := hV.only hO10 (fun g h1 h2 => ap2_A_A1 g h1 h2)
  replace hF := hF.locA hO10 gA_A1
  clear O4
  refine fx_val (v := .slice A6 ((([]) ++ l).length) cap7) fr rfl rfl (by first | decide | simp) (x_assign rfl (fr.ev rfl)) ?_
  clear fr a; intro a fr
  refine wpList_nil ?_
  refine fx_next ?_
  refine wp_ret ?_
  refine fx_ret fr [.tmp 2] [.slice A6 ((([]) ++ l).length) cap7] rfl ⟨rfl, trivial⟩ rfl ?_
  exact ⟨_, rfl, _, _, rfl, O9, fun g hg => (gA_A6 g hg).resolve_left id, hF⟩
theorem clone_c {w : World} {A : Option Addr} {cap : Nat} {l : List Ln} (hV : View lnE w A cap l) (hl : l.length ≤ 100000) : Calls Try.prog 37 #[.slice A l.length cap] w (Ret fun v w' => ∃ A' cap', v = .slice A' (l).length cap' ∧ Own lnE w' A' cap' (l) ∧ (∀ g, inA A' g → w.heap.size ≤ g) ∧ New w w') := by
  cases hA : A with
  | none =>
    subst hA
    obtain ⟨rfl, rfl⟩ := hV.none_
    refine (clone_nil w).mono ?_
    rintro e w' ⟨v, rfl, rfl, rfl⟩
    exact ⟨_, rfl, none, 0, rfl, Own.nil, fun g hg => absurd hg (apart_none g), Only.refl _ _⟩
  | some ad =>
    subst hA
    exact clone_some hV rfl hl
set_option maxRecDepth 100000 in
set_option maxHeartbeats 4000000 in
theorem delete_c {w : World} {A : Option Addr} {cap : Nat} {l : List Ln} (O : Own lnE w A cap l) (i : Nat) (hi : i < l.length) : Calls Try.prog 36 #[.slice A l.length cap, .int .i64 ((i : Nat) : Int), .int .i64 ((i + 1 : Nat) : Int)] w (Ret fun v w' => v = .slice A (l.take i ++ l.drop (i + 1)).length cap ∧ Own lnE w' A cap (l.take i ++ l.drop (i + 1)) ∧ Only (inA A) w w') := by
  have hOl := O.len
  unfold maxLen at hOl
  have hA0 := O.view.some_ (by omega)
  have gA_A : ∀ g, inA A g → (inA A) g ∨ w.heap.size ≤ g := fun g hg => .inl hg
  have hF := Only.refl (inA A) w
  refine fx_enter Try.func36 rfl (N := (33, [])) (T := [(0, .slice A l.length cap), (1, .int .i64 ((i : Nat) : Int)), (2, .int .i64 ((i + 1 : Nat) : Int))]) rfl (show 3 ≤ 33 by decide) ⟨rfl, rfl, rfl, trivial⟩ fun a fr => ?_
  refine wp_seq ?_
  refine wp_region_lit ?_  -- region 0
  refine fx_val (v := .slice none 0 0) fr rfl rfl (by first | decide | simp) (x_assign rfl rfl) ?_
  clear fr a; intro a fr
  refine wpList_nil ?_
  refine fx_next ?_
  refine wp_seq ?_
  refine wp_region_lit ?_  -- region 1
  refine fx_val (v := .slice A l.length cap) fr rfl rfl (by first | decide | simp) (x_move rfl (fr.ev rfl)) ?_
  clear fr a; intro a fr
  refine fx_val (v := .int .i64 ((i : Nat) : Int)) fr rfl rfl (by first | decide | simp) (x_move rfl (fr.ev rfl)) ?_
  clear fr a; intro a fr
  refine fx_val (v := .int .i64 ((i + 1 : Nat) : Int)) fr rfl rfl (by first | decide | simp) (x_move rfl (fr.ev rfl)) ?_
  clear fr a; intro a fr
  refine fx_val (v := .slice A l.length cap) fr rfl rfl (by first | decide | simp) (x_move rfl (fr.ev rfl)) ?_
  clear fr a; intro a fr
  refine fx_val (v := .int .i64 ((l.length : Nat) : Int)) fr rfl rfl (by first | decide | simp) (x_len Try.underlying26 rfl (fr.ev rfl)) ?_
  clear fr a; intro a fr
  refine fx_val (v := .slice (cutA A l.length i 18) ((i + 1) - i) (l.length - i)) fr rfl rfl (by first | decide | simp) (x_slice_full Try.underlying26 sz39 rfl (fr.ev rfl) (fr.ev rfl) (fr.ev rfl) (fr.ev rfl) (by omega) (by omega) (by omega)) ?_
  clear fr a; intro a fr
  refine wpList_nil ?_
  refine fx_next ?_
  refine wp_seq ?_
  refine wp_seq ?_
  refine wp_region_lit ?_  -- region 2
  refine fx_val (v := .int .i64 ((i : Nat) : Int)) fr rfl rfl (by first | decide | simp) (x_move rfl (fr.ev rfl)) ?_
  clear fr a; intro a fr
  refine fx_val (v := .int .i64 ((i + 1 : Nat) : Int)) fr rfl rfl (by first | decide | simp) (x_move rfl (fr.ev rfl)) ?_
  clear fr a; intro a fr
  refine fx_val (v := .bool (decide (((i : Nat) : Int) = ((i + 1 : Nat) : Int)))) fr rfl rfl (by first | decide | simp) (x_eql rfl (fr.ev rfl) (fr.ev rfl) rfl) ?_
  clear fr a; intro a fr
  refine wpList_nil ?_
  refine fx_next ?_
  refine fx_cond fr rfl (fun hc1 => ?_) (fun hc1 => ?_)
  · skip
    have hc1 := of_decide_eq_true hc1
    refine wp_seq ?_
    refine wp_region_lit ?_  -- region 3
    refine fx_val (v := .slice A l.length cap) fr rfl rfl (by first | decide | simp) (x_move rfl (fr.ev rfl)) ?_
    clear fr a; intro a fr
    refine fx_val (v := .slice A l.length cap) fr rfl rfl (by first | decide | simp) (x_assign rfl (fr.ev rfl)) ?_
    clear fr a; intro a fr
    refine wpList_nil ?_
    refine fx_next ?_
    refine wp_ret ?_
    refine fx_rt ?_
    refine fx_ret fr [.tmp 6] [.slice A l.length cap] rfl ⟨rfl, trivial⟩ rfl ?_
    exfalso
    omega
  · skip
    have hc1 := of_decide_eq_false hc1
    refine wp_skip ?_
    refine fx_next ?_
    refine wp_seq ?_
    refine wp_region_lit ?_  -- region 4
    refine fx_val (v := .slice A l.length cap) fr rfl rfl (by first | decide | simp) (x_move rfl (fr.ev rfl)) ?_
    clear fr a; intro a fr
    refine fx_val (v := .int .i64 ((l.length : Nat) : Int)) fr rfl rfl (by first | decide | simp) (x_len Try.underlying26 rfl (fr.ev rfl)) ?_
    clear fr a; intro a fr
    refine fx_val (v := .int .i64 ((l.length : Nat) : Int)) fr rfl rfl (by first | decide | simp) (x_assign rfl (fr.ev rfl)) ?_
    clear fr a; intro a fr
    refine wpList_nil ?_
    refine fx_next ?_
    refine wp_seq ?_
    refine fx_heldT (n := 7) (k := 7) (fun w => True) (by kernel_rfl) (by kernel_rfl) rfl ?_  -- region 5
    intro w2 hN3
    replace O := O.new hN3
    replace hF := hF.trNew hN3
    refine fx_take (i := 0) (v := .slice A l.length cap) fr rfl (by kernel_rfl) rfl rfl (by first | decide | simp) (fun _ _ _ h => h) (fun _ _ => x_move rfl (fr.ev rfl)) trivial ?_
    clear fr a; intro a fr
    refine fx_take (i := 1) (v := .int .i64 ((i : Nat) : Int)) fr rfl (by kernel_rfl) rfl rfl (by first | decide | simp) (fun _ _ _ h => h) (fun _ _ => x_move rfl (fr.ev rfl)) trivial ?_
    clear fr a; intro a fr
    refine fx_take (i := 2) (v := .slice A i cap) fr rfl (by kernel_rfl) rfl rfl (by first | decide | simp) (fun _ _ _ h => h) (fun _ _ => x_slice_to Try.underlying26 sz39 rfl (fr.ev rfl) (fr.ev rfl) (by have := (O.view).len; omega)) trivial ?_
    clear fr a; intro a fr
    refine fx_take (i := 3) (v := .slice A l.length cap) fr rfl (by kernel_rfl) rfl rfl (by first | decide | simp) (fun _ _ _ h => h) (fun _ _ => x_move rfl (fr.ev rfl)) trivial ?_
    clear fr a; intro a fr
    refine fx_take (i := 4) (v := .int .i64 ((i + 1 : Nat) : Int)) fr rfl (by kernel_rfl) rfl rfl (by first | decide | simp) (fun _ _ _ h => h) (fun _ _ => x_move rfl (fr.ev rfl)) trivial ?_
    clear fr a; intro a fr
    refine fx_take (i := 5) (v := .slice (cutA A cap (i + 1) 18) (l.length - (i + 1)) (cap - (i + 1))) fr rfl (by kernel_rfl) rfl rfl (by first | decide | simp) (fun _ _ _ h => h) (fun _ _ => x_slice_from Try.underlying26 sz39 rfl (fr.ev rfl) (fr.ev rfl) (by omega)) trivial ?_
    clear fr a; intro a fr
    refine fx_one (i := 6) (by kernel_rfl) (fx_op rfl ?_)
    refine fx_appendIn (E := lnE) (l := l.take i) (l' := l.drop (i + 1)) elLn fr rfl rfl (by decide) rfl (fr.ev rfl) (fr.ev rfl) (by simp; omega) (by simp) (O.pre i) ((O.view).drop (i + 1) (by omega)) hA0 (by simp; omega) ?_
    clear fr a
    intro w4 O5 hO6 a fr
    replace hF := hF.locA hO6 gA_A
    clear O
    have hdl : (l.take i ++ l.drop (i + 1)).length + 1 = l.length := by simp; omega
    refine wpList_nil ?_
    refine ⟨trivial, ?_⟩
    refine fx_hdone (by kernel_rfl) ?_
    refine fx_tail ?_
    refine fx_val (v := .slice A ((l.take i ++ l.drop (i + 1)).length) cap) fr rfl rfl (by first | decide | simp) (x_assign rfl (fr.ev rfl)) ?_
    clear fr a; intro a fr
    refine wpList_nil ?_
    refine fx_next ?_
    refine wp_seq ?_
    refine wp_region_lit ?_  -- region 6
    refine fx_val (v := .slice A ((l.take i ++ l.drop (i + 1)).length) cap) fr rfl rfl (by first | decide | simp) (x_move rfl (fr.ev rfl)) ?_
    clear fr a; intro a fr
    refine fx_val (v := .slice A ((l.take i ++ l.drop (i + 1)).length) cap) fr rfl rfl (by first | decide | simp) (x_move rfl (fr.ev rfl)) ?_
    clear fr a; intro a fr
    refine fx_val (v := .int .i64 (((l.take i ++ l.drop (i + 1)).length : Nat) : Int)) fr rfl rfl (by first | decide | simp) (x_len Try.underlying26 rfl (fr.ev rfl)) ?_
    clear fr a; intro a fr
    refine fx_val (v := .int .i64 ((l.length : Nat) : Int)) fr rfl rfl (by first | decide | simp) (x_move rfl (fr.ev rfl)) ?_
    clear fr a; intro a fr
    refine fx_val (v := .slice (cutA A cap ((l.take i ++ l.drop (i + 1)).length) 18) (l.length - ((l.take i ++ l.drop (i + 1)).length)) (cap - ((l.take i ++ l.drop (i + 1)).length))) fr rfl rfl (by first | decide | simp) (x_slice_mid Try.underlying26 sz39 rfl (fr.ev rfl) (fr.ev rfl) (fr.ev rfl) (by omega) (by omega)) ?_
    clear fr a; intro a fr
    refine fx_clearTail (E := lnE) elLn (z := .agg (lnE.arr ln0)) (by kernel_rfl) (lnE.size _) (lnE.all _) rfl rfl rfl (fr.ev rfl) O5 (Nat.le_refl _) (by omega) fun w7 O9 hO8 => ?_
    replace hF := hF.locA hO8 gA_A
    replace O5 := O9
    clear O9
    refine wpList_nil ?_
    refine fx_next ?_
    refine wp_seq ?_
    refine wp_region_lit ?_  -- region 7
    refine fx_val (v := .slice A ((l.take i ++ l.drop (i + 1)).length) cap) fr rfl rfl (by first | decide | simp) (x_move rfl (fr.ev rfl)) ?_
    clear fr a; intro a fr
    refine fx_val (v := .slice A ((l.take i ++ l.drop (i + 1)).length) cap) fr rfl rfl (by first | decide | simp) (x_assign rfl (fr.ev rfl)) ?_
    clear fr a; intro a fr
    refine wpList_nil ?_
    refine fx_next ?_
    refine wp_ret ?_
    refine fx_ret fr [.tmp 6] [.slice A ((l.take i ++ l.drop (i + 1)).length) cap] rfl ⟨rfl, trivial⟩ rfl ?_
    exact ⟨_, rfl, rfl, O5, hF⟩
end Go.Proofs.Ytdjgfkjcpalihaa
