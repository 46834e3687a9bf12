/- Closed facts on the program's types. -/
import Derived.Test.YtdbkmpnknkldlaaHMore
import Derived.Test.YtdbkmpnknkldlaaProg
namespace Go.Proofs.Ytdbkmpnknkldlaa
open Go.Mo
theorem ts3 : (Try.prog.info? 3).map (·.size) = some 1 := by kernel_rfl
theorem ts4 : (Try.prog.info? 4).map (·.size) = some 1 := by kernel_rfl
theorem ts5 : (Try.prog.info? 5).map (·.size) = some 1 := by kernel_rfl
theorem ts9 : (Try.prog.info? 9).map (·.size) = some 1 := by kernel_rfl
theorem ts23 : (Try.prog.info? 23).map (·.size) = some 32 := by kernel_rfl
theorem ts26 : (Try.prog.info? 26).map (·.size) = some 6 := by kernel_rfl
theorem ts29 : (Try.prog.info? 29).map (·.size) = some 1 := by kernel_rfl
theorem ts32 : (Try.prog.info? 32).map (·.size) = some 100 := by kernel_rfl
theorem ts91 : (Try.prog.info? 91).map (·.size) = some 6 := by kernel_rfl
theorem ts102 : (Try.prog.info? 102).map (·.size) = some 6 := by kernel_rfl
theorem tz3 : (Try.prog.info? 3).bind (·.zero) = some (.int .i64 0) := by kernel_rfl
theorem tz9 : (Try.prog.info? 9).bind (·.zero) = some (.string ⟨#[]⟩) := by kernel_rfl
theorem ti9 : (Try.prog.info? 9).map (fun i => (i.zero, i.size, i.bytes)) = some (some (.string ⟨#[]⟩), 1, 16) := by kernel_rfl
theorem tz23 : (Try.prog.info? 23).bind (·.zero) = some (.agg ⟨List.replicate 32 (.int .u8 0)⟩) := by kernel_rfl
theorem ti23 : (Try.prog.info? 23).map (fun i => (i.zero, i.size, i.bytes)) = some (some (.agg ⟨List.replicate 32 (.int .u8 0)⟩), 32, 32) := by kernel_rfl
theorem tz26 : (Try.prog.info? 26).bind (·.zero) = some (.agg ⟨List.replicate 6 (.int .i64 0)⟩) := by kernel_rfl
theorem tz32 : (Try.prog.info? 32).bind (·.zero) = some (.agg ⟨[.int .i64 0, .int .i64 0, .string ⟨#[]⟩] ++ List.replicate 32 (.int .u8 0) ++ [.string ⟨#[]⟩] ++ List.replicate 32 (.int .u8 0) ++ List.replicate 32 (.int .u8 0)⟩) := by kernel_rfl
theorem ti32 : (Try.prog.info? 32).map (fun i => (i.zero, i.size, i.bytes)) = some (some (.agg ⟨[.int .i64 0, .int .i64 0, .string ⟨#[]⟩] ++ List.replicate 32 (.int .u8 0) ++ [.string ⟨#[]⟩] ++ List.replicate 32 (.int .u8 0) ++ List.replicate 32 (.int .u8 0)⟩), 100, 144) := by kernel_rfl
theorem pl32 : PlacesAt Try.prog 32 [(0, 1), (1, 1), (2, 1), (3, 32), (35, 1), (36, 32), (68, 32)] := ⟨_, Try.underlying32, by kernel_rfl⟩
theorem fa32_0 : FieldAt Try.prog 32 0 0 := fieldAt Try.underlying32 rfl rfl ts3 rfl
theorem fa32_1 : FieldAt Try.prog 32 1 1 := fieldAt Try.underlying32 rfl rfl ts3 rfl
theorem fa32_2 : FieldAt Try.prog 32 2 2 := fieldAt Try.underlying32 rfl rfl ts9 rfl
theorem fa32_3 : FieldAt Try.prog 32 3 3 := fieldAt Try.underlying32 rfl rfl ts23 rfl
theorem fa32_4 : FieldAt Try.prog 32 4 35 := fieldAt Try.underlying32 rfl rfl ts9 rfl
theorem tz91 : (Try.prog.info? 91).bind (·.zero) = some (.agg ⟨[.slice none 0 0, .bool false, .int .i64 0, .bool false, .string ⟨#[]⟩, .string ⟨#[]⟩]⟩) := by kernel_rfl
theorem pl91 : PlacesAt Try.prog 91 [(0, 1), (1, 1), (2, 1), (3, 1), (4, 1), (5, 1)] := ⟨_, Try.underlying91, by kernel_rfl⟩
theorem fa91_0 : FieldAt Try.prog 91 0 0 := fieldAt Try.underlying91 rfl rfl ts29 rfl
theorem fa91_1 : FieldAt Try.prog 91 1 1 := fieldAt Try.underlying91 rfl rfl ts4 rfl
theorem fa91_2 : FieldAt Try.prog 91 2 2 := fieldAt Try.underlying91 rfl rfl ts3 rfl
theorem fa91_3 : FieldAt Try.prog 91 3 3 := fieldAt Try.underlying91 rfl rfl ts4 rfl
theorem fa91_4 : FieldAt Try.prog 91 4 4 := fieldAt Try.underlying91 rfl rfl ts9 rfl
theorem fa91_5 : FieldAt Try.prog 91 5 5 := fieldAt Try.underlying91 rfl rfl ts9 rfl
theorem tz102 : (Try.prog.info? 102).bind (·.zero) = some (.agg ⟨[.slice none 0 0, .bool false, .int .i64 0, .bool false, .string ⟨#[]⟩, .string ⟨#[]⟩]⟩) := by kernel_rfl
theorem pl102 : PlacesAt Try.prog 102 [(0, 1), (1, 1), (2, 1), (3, 1), (4, 1), (5, 1)] := ⟨_, Try.underlying102, by kernel_rfl⟩
theorem fa102_0 : FieldAt Try.prog 102 0 0 := fieldAt Try.underlying102 rfl rfl ts29 rfl
theorem fa102_1 : FieldAt Try.prog 102 1 1 := fieldAt Try.underlying102 rfl rfl ts4 rfl
theorem fa102_2 : FieldAt Try.prog 102 2 2 := fieldAt Try.underlying102 rfl rfl ts3 rfl
theorem fa102_3 : FieldAt Try.prog 102 3 3 := fieldAt Try.underlying102 rfl rfl ts4 rfl
theorem fa102_4 : FieldAt Try.prog 102 4 4 := fieldAt Try.underlying102 rfl rfl ts9 rfl
theorem fa102_5 : FieldAt Try.prog 102 5 5 := fieldAt Try.underlying102 rfl rfl ts9 rfl
theorem mixed : Try.prog.follows .mixedOrders = true := by kernel_rfl
end Go.Proofs.Ytdbkmpnknkldlaa
