/- Closed facts on the program's types. -/
import Derived.Test.YtpagpmioopaciaaGMore
import Derived.Test.YtpagpmioopaciaaProg
namespace Go.Proofs.Ytpagpmioopaciaa
open Go.Mo
theorem ts3 : (Try.prog.info? 3).map (·.size) = some 1 := by kernel_rfl
theorem ts4 : (Try.prog.info? 4).map (·.size) = some 1 := by kernel_rfl
theorem ts9 : (Try.prog.info? 9).map (·.size) = some 1 := by kernel_rfl
theorem ts24 : (Try.prog.info? 24).map (·.size) = some 1 := by kernel_rfl
theorem ts33 : (Try.prog.info? 33).map (·.size) = some 1 := by kernel_rfl
theorem ts36 : (Try.prog.info? 36).map (·.size) = some 1 := by kernel_rfl
theorem ts38 : (Try.prog.info? 38).map (·.size) = some 1 := by kernel_rfl
theorem ts48 : (Try.prog.info? 48).map (·.size) = some 1 := by kernel_rfl
theorem ts49 : (Try.prog.info? 49).map (·.size) = some 1 := by kernel_rfl
theorem ts51 : (Try.prog.info? 51).map (·.size) = some 2 := by kernel_rfl
theorem ts59 : (Try.prog.info? 59).map (·.size) = some 2 := by kernel_rfl
theorem ts61 : (Try.prog.info? 61).map (·.size) = some 2 := by kernel_rfl
theorem ts62 : (Try.prog.info? 62).map (·.size) = some 1 := by kernel_rfl
theorem ts69 : (Try.prog.info? 69).map (·.size) = some 41 := by kernel_rfl
theorem ts71 : (Try.prog.info? 71).map (·.size) = some 37 := by kernel_rfl
theorem ts123 : (Try.prog.info? 123).map (·.size) = some 4 := by kernel_rfl
theorem ts128 : (Try.prog.info? 128).map (·.size) = some 2 := by kernel_rfl
theorem ts134 : (Try.prog.info? 134).map (·.size) = some 1 := by kernel_rfl
theorem ts135 : (Try.prog.info? 135).map (·.size) = some 1 := by kernel_rfl
theorem tz3 : (Try.prog.info? 3).bind (·.zero) = some (.int .i64 0) := by kernel_rfl
theorem ti3 : (Try.prog.info? 3).map (fun i => (i.zero, i.size, i.bytes)) = some (some (.int .i64 0), 1, 8) := by kernel_rfl
theorem tz4 : (Try.prog.info? 4).bind (·.zero) = some (.bool false) := by kernel_rfl
theorem tz9 : (Try.prog.info? 9).bind (·.zero) = some (.string ⟨#[]⟩) := by kernel_rfl
theorem ti9 : (Try.prog.info? 9).map (fun i => (i.zero, i.size, i.bytes)) = some (some (.string ⟨#[]⟩), 1, 16) := by kernel_rfl
theorem tz51 : (Try.prog.info? 51).bind (·.zero) = some (.agg ⟨[.slice none 0 0, .slice none 0 0]⟩) := by kernel_rfl
theorem pl51 : PlacesAt Try.prog 51 [(0, 1), (1, 1)] := ⟨_, Try.underlying51, by kernel_rfl⟩
theorem fa51_0 : FieldAt Try.prog 51 0 0 := fieldAt Try.underlying51 rfl rfl ts48 rfl
theorem fa51_1 : FieldAt Try.prog 51 1 1 := fieldAt Try.underlying51 rfl rfl ts49 rfl
theorem tz59 : (Try.prog.info? 59).bind (·.zero) = some (.agg ⟨[.string ⟨#[]⟩, .int .u32 0]⟩) := by kernel_rfl
theorem ti59 : (Try.prog.info? 59).map (fun i => (i.zero, i.size, i.bytes)) = some (some (.agg ⟨[.string ⟨#[]⟩, .int .u32 0]⟩), 2, 24) := by kernel_rfl
theorem pl59 : PlacesAt Try.prog 59 [(0, 1), (1, 1)] := ⟨_, Try.underlying59, by kernel_rfl⟩
theorem fa59_0 : FieldAt Try.prog 59 0 0 := fieldAt Try.underlying59 rfl rfl ts9 rfl
theorem fa59_1 : FieldAt Try.prog 59 1 1 := fieldAt Try.underlying59 rfl rfl ts38 rfl
theorem tz61 : (Try.prog.info? 61).bind (·.zero) = some (.agg ⟨[.string ⟨#[]⟩, .slice none 0 0]⟩) := by kernel_rfl
theorem ti61 : (Try.prog.info? 61).map (fun i => (i.zero, i.size, i.bytes)) = some (some (.agg ⟨[.string ⟨#[]⟩, .slice none 0 0]⟩), 2, 40) := by kernel_rfl
theorem pl61 : PlacesAt Try.prog 61 [(0, 1), (1, 1)] := ⟨_, Try.underlying61, by kernel_rfl⟩
theorem fa61_0 : FieldAt Try.prog 61 0 0 := fieldAt Try.underlying61 rfl rfl ts9 rfl
theorem fa61_1 : FieldAt Try.prog 61 1 1 := fieldAt Try.underlying61 rfl rfl ts36 rfl
theorem tz62 : (Try.prog.info? 62).bind (·.zero) = some (.slice none 0 0) := by kernel_rfl
theorem tz69 : (Try.prog.info? 69).bind (·.zero) = some (.agg ⟨[.int .i64 0, .string ⟨#[]⟩, .string ⟨#[]⟩, .string ⟨#[]⟩, .int .i64 0, .bool false, .bool false, .slice none 0 0] ++ List.replicate 32 (.int .u8 0) ++ [.slice none 0 0]⟩) := by kernel_rfl
theorem pl69 : PlacesAt Try.prog 69 [(0, 1), (1, 1), (2, 1), (3, 1), (4, 1), (5, 1), (6, 1), (7, 1), (8, 32), (40, 1)] := ⟨_, Try.underlying69, by kernel_rfl⟩
theorem fa69_0 : FieldAt Try.prog 69 0 0 := fieldAt Try.underlying69 rfl rfl ts3 rfl
theorem fa69_1 : FieldAt Try.prog 69 1 1 := fieldAt Try.underlying69 rfl rfl ts9 rfl
theorem fa69_2 : FieldAt Try.prog 69 2 2 := fieldAt Try.underlying69 rfl rfl ts9 rfl
theorem fa69_7 : FieldAt Try.prog 69 7 7 := fieldAt Try.underlying69 rfl rfl ts33 rfl
theorem tz71 : (Try.prog.info? 71).bind (·.zero) = some (.agg ⟨[.int .i64 0] ++ List.replicate 32 (.int .u8 0) ++ [.slice none 0 0, .slice none 0 0, .int .i64 0, .bool false]⟩) := by kernel_rfl
theorem pl71 : PlacesAt Try.prog 71 [(0, 1), (1, 32), (33, 1), (34, 1), (35, 1), (36, 1)] := ⟨_, Try.underlying71, by kernel_rfl⟩
theorem fa71_0 : FieldAt Try.prog 71 0 0 := fieldAt Try.underlying71 rfl rfl ts24 rfl
theorem fa71_2 : FieldAt Try.prog 71 2 33 := fieldAt Try.underlying71 rfl rfl ts33 rfl
theorem fa71_4 : FieldAt Try.prog 71 4 35 := fieldAt Try.underlying71 rfl rfl ts3 rfl
theorem fa123_0 : FieldAt Try.prog 123 0 0 := fieldAt Try.underlying123 rfl rfl ts3 rfl
theorem fa123_1 : FieldAt Try.prog 123 1 1 := fieldAt Try.underlying123 rfl rfl ts9 rfl
theorem fa123_2 : FieldAt Try.prog 123 2 2 := fieldAt Try.underlying123 rfl rfl ts9 rfl
theorem fa123_3 : FieldAt Try.prog 123 3 3 := fieldAt Try.underlying123 rfl rfl ts36 rfl
theorem tz128 : (Try.prog.info? 128).bind (·.zero) = some (.agg ⟨[.string ⟨#[]⟩, .string ⟨#[]⟩]⟩) := by kernel_rfl
theorem ti128 : (Try.prog.info? 128).map (fun i => (i.zero, i.size, i.bytes)) = some (some (.agg ⟨[.string ⟨#[]⟩, .string ⟨#[]⟩]⟩), 2, 32) := by kernel_rfl
theorem pl128 : PlacesAt Try.prog 128 [(0, 1), (1, 1)] := ⟨_, Try.underlying128, by kernel_rfl⟩
theorem fa128_0 : FieldAt Try.prog 128 0 0 := fieldAt Try.underlying128 rfl rfl ts9 rfl
theorem fa128_1 : FieldAt Try.prog 128 1 1 := fieldAt Try.underlying128 rfl rfl ts9 rfl
theorem tz137 : (Try.prog.info? 137).bind (·.zero) = some (.agg ⟨[.map none, .map none]⟩) := by kernel_rfl
theorem pl137 : PlacesAt Try.prog 137 [(0, 1), (1, 1)] := ⟨_, Try.underlying137, by kernel_rfl⟩
theorem fa137_0 : FieldAt Try.prog 137 0 0 := fieldAt Try.underlying137 rfl rfl ts134 rfl
theorem fa137_1 : FieldAt Try.prog 137 1 1 := fieldAt Try.underlying137 rfl rfl ts135 rfl
theorem mixed : Try.prog.follows .mixedOrders = true := by kernel_rfl
end Go.Proofs.Ytpagpmioopaciaa
