/- PRINTED BY pr.py (own program): what the evaluator of <Name>Ev makes of the code of some functions. -/
import Derived.Test.YtjikegaipldnhaaChecked
import Derived.Test.YtjikegaipldnhaaEv
import Derived.Test.YtjikegaipldnhaaMix
namespace Go.Proofs
open Go.Ev
set_option linter.unusedVariables false
set_option maxRecDepth 100000
def F_cache_New (room : Int) (w : World) (R : Value → World → Prop) : Prop :=
  Req ((decide (room < 1)) = (decide (room < 1))) (Req ((decide (room < 1)) = (decide (room < 1))) (Cb (cond (decide (room < 1)) true (decide (room > 64))) (Ret [] (R
  (.tuple #[.pointer none, .int .i64 2]) w)) (DoV Try.prog (Instr.makeMap 159 none) w fun v w => OpM v fun m => DoQ Try.prog (Instr.build 161 #[(0, .int .i64 room), (1, .map
  m)]) (At w) fun v1 => OpA 2 v1 fun cs => Alc 161 cs w fun b w => Ret [] (R (.tuple #[.pointer (some ⟨b, 0, none⟩), .int .i64 0]) w))))
theorem C_cache_New {room : Int} {w : World} {R : Value → World → Prop} (h : F_cache_New room w R) : CallV Try.prog 72 #[.int .i64 room] w R := by
  exact calls_of_F (args := [.int .i64 room]) (mkAnn [] [] [] [] []) Try_mixed Try.func72 rfl rfl (by kernel_rfl) h
def F_cache_Cache_Put (c : Nat) (lba : Int) (data : Array Value) (version : Int) (w : World) (R : Value → World → Prop) : Prop :=
  Alc 40 data w fun b w => Req (false = false) (Req (false = false) (Req ((decide (lba < 0)) = (decide (lba < 0))) (Req ((decide (lba < 0)) = (decide (lba < 0))) (Cb (cond
  (decide (lba < 0)) true (decide (lba > 2147483647))) (Ret [] (R (.int .i64 2) w)) (LdV c 1 (At w) fun v => OpM v fun m => DoQ Try.prog (Instr.lookup 159 (.map m) (.int
  .i64 lba) true) (At w) fun v1 => T2 v1 fun v2 v3 => OpA 17 v2 fun cs => OpB v3 fun g => Alc 157 (zc Try.prog 157) w fun b1 w => StA 17 b1 0 cs w fun w => Cb g (LdV b1 16
  (At w) fun v4 => OpI .u64 v4 fun n => Cb (decide (n ≥ version)) (Ret [] (R (.int .i64 2) w)) (Cb (!g) (CallV Try.prog 71 #[.pointer (some ⟨c, 0, none⟩)] w fun v5 w => OpB
  v5 fun g1 => Cb g1 (Ret [] (R (.int .i64 9) w)) (Dr1 w fun w => LdV c 1 (At w) fun v6 => OpM v6 fun m1 => LdA 16 b 0 (At w) fun cs1 => DoQ Try.prog (Instr.build 157 #[(0,
  .agg cs1), (1, .int .u64 version)]) (At w) fun v7 => OpA 17 v7 fun cs2 => DoU Try.prog (Instr.mapUpdate 159 (.map m1) (.int .i64 lba) (.agg cs2)) w fun w => Ret [] (R
  (.int .i64 0) w))) (Dr1 w fun w => LdV c 1 (At w) fun v8 => OpM v8 fun m2 => LdA 16 b 0 (At w) fun cs3 => DoQ Try.prog (Instr.build 157 #[(0, .agg cs3), (1, .int .u64
  version)]) (At w) fun v9 => OpA 17 v9 fun cs4 => DoU Try.prog (Instr.mapUpdate 159 (.map m2) (.int .i64 lba) (.agg cs4)) w fun w => Ret [] (R (.int .i64 0) w)))) (Cb (!g)
  (CallV Try.prog 71 #[.pointer (some ⟨c, 0, none⟩)] w fun v10 w => OpB v10 fun g2 => Cb g2 (Ret [] (R (.int .i64 9) w)) (Dr1 w fun w => LdV c 1 (At w) fun v11 => OpM v11
  fun m3 => LdA 16 b 0 (At w) fun cs5 => DoQ Try.prog (Instr.build 157 #[(0, .agg cs5), (1, .int .u64 version)]) (At w) fun v12 => OpA 17 v12 fun cs6 => DoU Try.prog
  (Instr.mapUpdate 159 (.map m3) (.int .i64 lba) (.agg cs6)) w fun w => Ret [] (R (.int .i64 0) w))) (Dr1 w fun w => LdV c 1 (At w) fun v13 => OpM v13 fun m4 => LdA 16 b 0
  (At w) fun cs7 => DoQ Try.prog (Instr.build 157 #[(0, .agg cs7), (1, .int .u64 version)]) (At w) fun v14 => OpA 17 v14 fun cs8 => DoU Try.prog (Instr.mapUpdate 159 (.map
  m4) (.int .i64 lba) (.agg cs8)) w fun w => Ret [] (R (.int .i64 0) w))))))))
theorem C_cache_Cache_Put {c : Nat} {lba : Int} {data : Array Value} {version : Int} {w : World} {R : Value → World → Prop} (h : F_cache_Cache_Put c lba data version w R) : CallV Try.prog 47 #[.pointer (some ⟨c, 0, none⟩), .int .i64 lba, .agg data, .int .u64 version] w R := by
  exact calls_of_F (args := [.pointer (some ⟨c, 0, none⟩), .int .i64 lba, .agg data, .int .u64 version]) (mkAnn [] [] [] [] []) Try_mixed Try.func47 rfl rfl (by kernel_rfl) h
def F_cache_Cache_Get (c : Nat) (lba : Int) (w : World) (R : Value → World → Prop) : Prop :=
  Alc 40 (zc Try.prog 40) w fun b w => LdV c 1 (At w) fun v => OpM v fun m => DoQ Try.prog (Instr.lookup 159 (.map m) (.int .i64 lba) true) (At w) fun v1 => T2 v1 fun v2 v3
  => OpA 17 v2 fun cs => OpB v3 fun g => Alc 157 (zc Try.prog 157) w fun b1 w => StA 17 b1 0 cs w fun w => Cb (!g) (DoQ Try.prog (Instr.build 40 #[]) (At w) fun v4 => OpA 16
  v4 fun cs1 => StA 16 b 0 cs1 w fun w => LdA 16 b 0 (At w) fun cs2 => Ret [] (R (.tuple #[.agg cs2, .int .u64 0, .int .i64 10]) w)) (HeldR w fun S w => LdA 16 b1 0 (At w)
  fun cs3 => LdV b1 16 S fun v5 => OpI .u64 v5 fun n => StA 16 b 0 cs3 w fun w => Hld (S w) (LdA 16 b 0 (At w) fun cs4 => Ret [] (R (.tuple #[.agg cs4, .int .u64 n, .int
  .i64 0]) w)))
theorem C_cache_Cache_Get {c : Nat} {lba : Int} {w : World} {R : Value → World → Prop} (h : F_cache_Cache_Get c lba w R) : CallV Try.prog 68 #[.pointer (some ⟨c, 0, none⟩), .int .i64 lba] w R := by
  exact calls_of_F (args := [.pointer (some ⟨c, 0, none⟩), .int .i64 lba]) (mkAnn [] [] [] [] []) Try_mixed Try.func68 rfl rfl (by kernel_rfl) h
def F_cache_Cache_Full (c : Nat) (w : World) (R : Value → World → Prop) : Prop :=
  LdV c 1 (At w) fun v => OpM v fun m => DoQ Try.prog (Builtin.len_ #[159] 3 #[.map m]) (At w) fun v1 => OpI .i64 v1 fun n => LdV c 0 (At w) fun v2 => OpI .i64 v2 fun n1 =>
  Drw w fun w => Ret [] (R (.bool (decide (n ≥ n1))) w)
theorem C_cache_Cache_Full {c : Nat} {w : World} {R : Value → World → Prop} (h : F_cache_Cache_Full c w R) : CallV Try.prog 71 #[.pointer (some ⟨c, 0, none⟩)] w R := by
  exact calls_of_F (args := [.pointer (some ⟨c, 0, none⟩)]) (mkAnn [] [] [] [] []) Try_mixed Try.func71 rfl rfl (by kernel_rfl) h
end Go.Proofs
