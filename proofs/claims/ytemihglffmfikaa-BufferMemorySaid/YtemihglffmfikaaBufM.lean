/-
  BufferMemory. Printed by gen_m.py.
-/
import Derived.Test.YtemihglffmfikaaBufM1
import Derived.Test.YtemihglffmfikaaBufM2
import Derived.Test.YtemihglffmfikaaBufM4
import Derived.Test.YtemihglffmfikaaBufM0
namespace Go.Proofs.Ytemihglffmfikaa
open Go.RowKit

theorem memory_c {w : World} {P M : Option Addr} {cp cm : Nat} {la : List BAct} {lm : List By} (hV : View actE w P cp la) (hM : View byE w M cm lm) (addr width : Int) (ha : 0 ≤ addr ∧ addr < 4294967296) : Calls Try.prog 6 #[.slice P la.length cp, .slice M lm.length cm, .int .u32 addr, .int .i64 width] w (Ret fun v w' => v = .bool true ∧ New w w') := by
  rcases w_cases width with hq | hq | hq | hq
  · exact memory1_c hV hM addr width ha hq
  · exact memory2_c hV hM addr width ha hq
  · exact memory4_c hV hM addr width ha hq
  · exact memory0_c hV hM addr width ha hq
end Go.Proofs.Ytemihglffmfikaa
