/- Closed facts on the program's types. -/
import Derived.Test.YtblpmjbddpadcaaZMore
import Derived.Test.YtblpmjbddpadcaaProg
namespace Go.Proofs.Ytblpmjbddpadcaa
open Go.Mo
theorem ts3 : (Try.prog.info? 3).map (·.size) = some 1 := by kernel_rfl
theorem ts4 : (Try.prog.info? 4).map (·.size) = some 1 := by kernel_rfl
theorem ts5 : (Try.prog.info? 5).map (·.size) = some 1 := by kernel_rfl
theorem ts9 : (Try.prog.info? 9).map (·.size) = some 1 := by kernel_rfl
theorem ts32 : (Try.prog.info? 32).map (·.size) = some 1 := by kernel_rfl
theorem ts39 : (Try.prog.info? 39).map (·.size) = some 1 := by kernel_rfl
theorem ts40 : (Try.prog.info? 40).map (·.size) = some 1 := by kernel_rfl
theorem ts44 : (Try.prog.info? 44).map (·.size) = some 256 := by kernel_rfl
theorem ts57 : (Try.prog.info? 57).map (·.size) = some 32 := by kernel_rfl
theorem ts83 : (Try.prog.info? 83).map (·.size) = some 39 := by kernel_rfl
theorem ts160 : (Try.prog.info? 160).map (·.size) = some 1 := by kernel_rfl
theorem ts210 : (Try.prog.info? 210).map (·.size) = some 4 := by kernel_rfl
theorem ts212 : (Try.prog.info? 212).map (·.size) = some 1 := by kernel_rfl
theorem ts216 : (Try.prog.info? 216).map (·.size) = some 8 := by kernel_rfl
theorem ts218 : (Try.prog.info? 218).map (·.size) = some 64 := by kernel_rfl
theorem tz3 : (Try.prog.info? 3).bind (·.zero) = some (.int .i64 0) := by kernel_rfl
theorem ti3 : (Try.prog.info? 3).map (fun i => (i.zero, i.size, i.bytes)) = some (some (.int .i64 0), 1, 8) := by kernel_rfl
theorem tz5 : (Try.prog.info? 5).bind (·.zero) = some (.int .u8 0) := by kernel_rfl
theorem ti5 : (Try.prog.info? 5).map (fun i => (i.zero, i.size, i.bytes)) = some (some (.int .u8 0), 1, 1) := by kernel_rfl
theorem tz9 : (Try.prog.info? 9).bind (·.zero) = some (.string ⟨#[]⟩) := by kernel_rfl
theorem ti9 : (Try.prog.info? 9).map (fun i => (i.zero, i.size, i.bytes)) = some (some (.string ⟨#[]⟩), 1, 16) := by kernel_rfl
theorem tz44 : (Try.prog.info? 44).bind (·.zero) = some (.agg ⟨List.replicate 256 (.int .u8 0)⟩) := by kernel_rfl
theorem tz57 : (Try.prog.info? 57).bind (·.zero) = some (.agg ⟨List.replicate 32 (.int .u8 0)⟩) := by kernel_rfl
theorem tz83 : (Try.prog.info? 83).bind (·.zero) = some (.agg ⟨List.replicate 32 (.int .u8 0) ++ [.int .i64 0, .int .i64 0, .bool false, .int .i64 0, .slice none 0 0, .string ⟨#[]⟩, .slice none 0 0]⟩) := by kernel_rfl
theorem pl83 : PlacesAt Try.prog 83 [(0, 32), (32, 1), (33, 1), (34, 1), (35, 1), (36, 1), (37, 1), (38, 1)] := ⟨_, Try.underlying83, by kernel_rfl⟩
theorem fa83_0 : FieldAt Try.prog 83 0 0 := fieldAt Try.underlying83 rfl rfl ts57 rfl
theorem fa83_1 : FieldAt Try.prog 83 1 32 := fieldAt Try.underlying83 rfl rfl ts3 rfl
theorem fa83_2 : FieldAt Try.prog 83 2 33 := fieldAt Try.underlying83 rfl rfl ts3 rfl
theorem fa83_3 : FieldAt Try.prog 83 3 34 := fieldAt Try.underlying83 rfl rfl ts4 rfl
theorem fa83_4 : FieldAt Try.prog 83 4 35 := fieldAt Try.underlying83 rfl rfl ts3 rfl
theorem fa83_5 : FieldAt Try.prog 83 5 36 := fieldAt Try.underlying83 rfl rfl ts40 rfl
theorem fa83_6 : FieldAt Try.prog 83 6 37 := fieldAt Try.underlying83 rfl rfl ts9 rfl
theorem fa83_7 : FieldAt Try.prog 83 7 38 := fieldAt Try.underlying83 rfl rfl ts32 rfl
theorem tz167 : (Try.prog.info? 167).bind (·.zero) = some (.agg ⟨List.replicate 2 (.string ⟨#[]⟩)⟩) := by kernel_rfl
theorem tz210 : (Try.prog.info? 210).bind (·.zero) = some (.agg ⟨List.replicate 4 (.int .u8 0)⟩) := by kernel_rfl
theorem tz212 : (Try.prog.info? 212).bind (·.zero) = some (.int .u32 0) := by kernel_rfl
theorem tz216 : (Try.prog.info? 216).bind (·.zero) = some (.agg ⟨List.replicate 8 (.int .u32 0)⟩) := by kernel_rfl
theorem tz218 : (Try.prog.info? 218).bind (·.zero) = some (.agg ⟨List.replicate 64 (.int .u32 0)⟩) := by kernel_rfl
theorem tz223 : (Try.prog.info? 223).bind (·.zero) = some (.agg ⟨List.replicate 8 (.int .u32 0) ++ [.slice none 0 0, .int .u64 0]⟩) := by kernel_rfl
theorem pl223 : PlacesAt Try.prog 223 [(0, 8), (8, 1), (9, 1)] := ⟨_, Try.underlying223, by kernel_rfl⟩
theorem fa223_0 : FieldAt Try.prog 223 0 0 := fieldAt Try.underlying223 rfl rfl ts216 rfl
theorem fa223_1 : FieldAt Try.prog 223 1 8 := fieldAt Try.underlying223 rfl rfl ts39 rfl
theorem fa223_2 : FieldAt Try.prog 223 2 9 := fieldAt Try.underlying223 rfl rfl ts160 rfl
theorem tz226 : (Try.prog.info? 226).bind (·.zero) = some (.agg ⟨[.slice none 0 0, .bool false]⟩) := by kernel_rfl
theorem pl226 : PlacesAt Try.prog 226 [(0, 1), (1, 1)] := ⟨_, Try.underlying226, by kernel_rfl⟩
theorem fa226_0 : FieldAt Try.prog 226 0 0 := fieldAt Try.underlying226 rfl rfl ts39 rfl
theorem fa226_1 : FieldAt Try.prog 226 1 1 := fieldAt Try.underlying226 rfl rfl ts4 rfl
theorem mixed : Try.prog.follows .mixedOrders = true := by kernel_rfl
end Go.Proofs.Ytblpmjbddpadcaa
