/- Closed facts on the program's types. -/
import Derived.Test.YtblpmjbddpadcaaHMore
import Derived.Test.YtblpmjbddpadcaaProg
namespace Go.Proofs.Ytblpmjbddpadcaa
open Go.Mo
theorem ts3 : (Try.prog.info? 3).map (·.size) = some 1 := by kernel_rfl
theorem ts4 : (Try.prog.info? 4).map (·.size) = some 1 := by kernel_rfl
theorem ts5 : (Try.prog.info? 5).map (·.size) = some 1 := by kernel_rfl
theorem ts9 : (Try.prog.info? 9).map (·.size) = some 1 := by kernel_rfl
theorem ts40 : (Try.prog.info? 40).map (·.size) = some 1 := by kernel_rfl
theorem ts57 : (Try.prog.info? 57).map (·.size) = some 32 := by kernel_rfl
theorem ts59 : (Try.prog.info? 59).map (·.size) = some 100 := by kernel_rfl
theorem ts108 : (Try.prog.info? 108).map (·.size) = some 6 := by kernel_rfl
theorem ts110 : (Try.prog.info? 110).map (·.size) = some 6 := by kernel_rfl
theorem ts180 : (Try.prog.info? 180).map (·.size) = some 6 := by kernel_rfl
theorem tz3 : (Try.prog.info? 3).bind (·.zero) = some (.int .i64 0) := by kernel_rfl
theorem tz4 : (Try.prog.info? 4).bind (·.zero) = some (.bool false) := by kernel_rfl
theorem tz9 : (Try.prog.info? 9).bind (·.zero) = some (.string ⟨#[]⟩) := by kernel_rfl
theorem ti9 : (Try.prog.info? 9).map (fun i => (i.zero, i.size, i.bytes)) = some (some (.string ⟨#[]⟩), 1, 16) := by kernel_rfl
theorem tz57 : (Try.prog.info? 57).bind (·.zero) = some (.agg ⟨List.replicate 32 (.int .u8 0)⟩) := by kernel_rfl
theorem ti57 : (Try.prog.info? 57).map (fun i => (i.zero, i.size, i.bytes)) = some (some (.agg ⟨List.replicate 32 (.int .u8 0)⟩), 32, 32) := by kernel_rfl
theorem tz59 : (Try.prog.info? 59).bind (·.zero) = some (.agg ⟨[.int .i64 0, .int .i64 0, .string ⟨#[]⟩] ++ List.replicate 32 (.int .u8 0) ++ [.string ⟨#[]⟩] ++ List.replicate 32 (.int .u8 0) ++ List.replicate 32 (.int .u8 0)⟩) := by kernel_rfl
theorem ti59 : (Try.prog.info? 59).map (fun i => (i.zero, i.size, i.bytes)) = some (some (.agg ⟨[.int .i64 0, .int .i64 0, .string ⟨#[]⟩] ++ List.replicate 32 (.int .u8 0) ++ [.string ⟨#[]⟩] ++ List.replicate 32 (.int .u8 0) ++ List.replicate 32 (.int .u8 0)⟩), 100, 144) := by kernel_rfl
theorem pl59 : PlacesAt Try.prog 59 [(0, 1), (1, 1), (2, 1), (3, 32), (35, 1), (36, 32), (68, 32)] := ⟨_, Try.underlying59, by kernel_rfl⟩
theorem fa59_0 : FieldAt Try.prog 59 0 0 := fieldAt Try.underlying59 rfl rfl ts3 rfl
theorem fa59_1 : FieldAt Try.prog 59 1 1 := fieldAt Try.underlying59 rfl rfl ts3 rfl
theorem fa59_2 : FieldAt Try.prog 59 2 2 := fieldAt Try.underlying59 rfl rfl ts9 rfl
theorem fa59_3 : FieldAt Try.prog 59 3 3 := fieldAt Try.underlying59 rfl rfl ts57 rfl
theorem fa59_4 : FieldAt Try.prog 59 4 35 := fieldAt Try.underlying59 rfl rfl ts9 rfl
theorem tz108 : (Try.prog.info? 108).bind (·.zero) = some (.agg ⟨[.slice none 0 0, .bool false, .int .i64 0, .bool false, .string ⟨#[]⟩, .string ⟨#[]⟩]⟩) := by kernel_rfl
theorem pl108 : PlacesAt Try.prog 108 [(0, 1), (1, 1), (2, 1), (3, 1), (4, 1), (5, 1)] := ⟨_, Try.underlying108, by kernel_rfl⟩
theorem fa108_0 : FieldAt Try.prog 108 0 0 := fieldAt Try.underlying108 rfl rfl ts40 rfl
theorem fa108_1 : FieldAt Try.prog 108 1 1 := fieldAt Try.underlying108 rfl rfl ts4 rfl
theorem fa108_2 : FieldAt Try.prog 108 2 2 := fieldAt Try.underlying108 rfl rfl ts3 rfl
theorem fa108_3 : FieldAt Try.prog 108 3 3 := fieldAt Try.underlying108 rfl rfl ts4 rfl
theorem fa108_4 : FieldAt Try.prog 108 4 4 := fieldAt Try.underlying108 rfl rfl ts9 rfl
theorem fa108_5 : FieldAt Try.prog 108 5 5 := fieldAt Try.underlying108 rfl rfl ts9 rfl
theorem tz110 : (Try.prog.info? 110).bind (·.zero) = some (.agg ⟨[.slice none 0 0, .bool false, .int .i64 0, .bool false, .string ⟨#[]⟩, .string ⟨#[]⟩]⟩) := by kernel_rfl
theorem pl110 : PlacesAt Try.prog 110 [(0, 1), (1, 1), (2, 1), (3, 1), (4, 1), (5, 1)] := ⟨_, Try.underlying110, by kernel_rfl⟩
theorem fa110_0 : FieldAt Try.prog 110 0 0 := fieldAt Try.underlying110 rfl rfl ts40 rfl
theorem fa110_1 : FieldAt Try.prog 110 1 1 := fieldAt Try.underlying110 rfl rfl ts4 rfl
theorem fa110_2 : FieldAt Try.prog 110 2 2 := fieldAt Try.underlying110 rfl rfl ts3 rfl
theorem fa110_3 : FieldAt Try.prog 110 3 3 := fieldAt Try.underlying110 rfl rfl ts4 rfl
theorem fa110_4 : FieldAt Try.prog 110 4 4 := fieldAt Try.underlying110 rfl rfl ts9 rfl
theorem fa110_5 : FieldAt Try.prog 110 5 5 := fieldAt Try.underlying110 rfl rfl ts9 rfl
theorem tz180 : (Try.prog.info? 180).bind (·.zero) = some (.agg ⟨List.replicate 6 (.int .i64 0)⟩) := by kernel_rfl
theorem mixed : Try.prog.follows .mixedOrders = true := by kernel_rfl
end Go.Proofs.Ytblpmjbddpadcaa
