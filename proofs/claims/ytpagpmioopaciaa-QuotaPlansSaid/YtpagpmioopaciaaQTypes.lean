/- Closed facts on the program's types. -/
import Derived.Test.YtpagpmioopaciaaQMore
import Derived.Test.YtpagpmioopaciaaProg
namespace Go.Proofs.Ytpagpmioopaciaa
open Go.Mo
theorem ts3 : (Try.prog.info? 3).map (·.size) = some 1 := by kernel_rfl
theorem ts5 : (Try.prog.info? 5).map (·.size) = some 1 := by kernel_rfl
theorem ts23 : (Try.prog.info? 23).map (·.size) = some 4 := by kernel_rfl
theorem ts33 : (Try.prog.info? 33).map (·.size) = some 1 := by kernel_rfl
theorem ts36 : (Try.prog.info? 36).map (·.size) = some 1 := by kernel_rfl
theorem ts37 : (Try.prog.info? 37).map (·.size) = some 1 := by kernel_rfl
theorem ts66 : (Try.prog.info? 66).map (·.size) = some 32 := by kernel_rfl
theorem ts67 : (Try.prog.info? 67).map (·.size) = some 1 := by kernel_rfl
theorem ts76 : (Try.prog.info? 76).map (·.size) = some 1 := by kernel_rfl
theorem ts93 : (Try.prog.info? 93).map (·.size) = some 5 := by kernel_rfl
theorem ts101 : (Try.prog.info? 101).map (·.size) = some 14 := by kernel_rfl
theorem ts104 : (Try.prog.info? 104).map (·.size) = some 1 := by kernel_rfl
theorem ts107 : (Try.prog.info? 107).map (·.size) = some 1 := by kernel_rfl
theorem ts112 : (Try.prog.info? 112).map (·.size) = some 1 := by kernel_rfl
theorem ts113 : (Try.prog.info? 113).map (·.size) = some 1 := by kernel_rfl
theorem ts149 : (Try.prog.info? 149).map (·.size) = some 1 := by kernel_rfl
theorem ts158 : (Try.prog.info? 158).map (·.size) = some 35 := by kernel_rfl
theorem ts160 : (Try.prog.info? 160).map (·.size) = some 39 := by kernel_rfl
theorem ts164 : (Try.prog.info? 164).map (·.size) = some 34 := by kernel_rfl
theorem ts172 : (Try.prog.info? 172).map (·.size) = some 1 := by kernel_rfl
theorem ts214 : (Try.prog.info? 214).map (·.size) = some 2 := by kernel_rfl
theorem ts257 : (Try.prog.info? 257).map (·.size) = some 8 := by kernel_rfl
theorem ts273 : (Try.prog.info? 273).map (·.size) = some 64 := by kernel_rfl
theorem tz3 : (Try.prog.info? 3).bind (·.zero) = some (.int .i64 0) := by kernel_rfl
theorem tz4 : (Try.prog.info? 4).bind (·.zero) = some (.bool false) := by kernel_rfl
theorem tz5 : (Try.prog.info? 5).bind (·.zero) = some (.int .u8 0) := by kernel_rfl
theorem ti5 : (Try.prog.info? 5).map (fun i => (i.zero, i.size, i.bytes)) = some (some (.int .u8 0), 1, 1) := by kernel_rfl
theorem tz23 : (Try.prog.info? 23).bind (·.zero) = some (.agg ⟨[.int .i64 0, .int .i64 0, .int .i64 0, .int .i64 0]⟩) := by kernel_rfl
theorem pl23 : PlacesAt Try.prog 23 [(0, 1), (1, 1), (2, 1), (3, 1)] := ⟨_, Try.underlying23, by kernel_rfl⟩
theorem ia23 : IntsAt Try.prog 23 [.i64, .i64, .i64, .i64] := intsAt_of (by kernel_rfl)
theorem fa23_0 : FieldAt Try.prog 23 0 0 := fieldAt Try.underlying23 rfl rfl ts3 rfl
theorem fa23_1 : FieldAt Try.prog 23 1 1 := fieldAt Try.underlying23 rfl rfl ts3 rfl
theorem fa23_2 : FieldAt Try.prog 23 2 2 := fieldAt Try.underlying23 rfl rfl ts3 rfl
theorem fa23_3 : FieldAt Try.prog 23 3 3 := fieldAt Try.underlying23 rfl rfl ts3 rfl
theorem tz33 : (Try.prog.info? 33).bind (·.zero) = some (.slice none 0 0) := by kernel_rfl
theorem ti33 : (Try.prog.info? 33).map (fun i => (i.zero, i.size, i.bytes)) = some (some (.slice none 0 0), 1, 24) := by kernel_rfl
theorem tz66 : (Try.prog.info? 66).bind (·.zero) = some (.agg ⟨List.replicate 32 (.int .u8 0)⟩) := by kernel_rfl
theorem ti66 : (Try.prog.info? 66).map (fun i => (i.zero, i.size, i.bytes)) = some (some (.agg ⟨List.replicate 32 (.int .u8 0)⟩), 32, 32) := by kernel_rfl
theorem tz67 : (Try.prog.info? 67).bind (·.zero) = some (.slice none 0 0) := by kernel_rfl
theorem tz93 : (Try.prog.info? 93).bind (·.zero) = some (.agg ⟨[.int .i64 0, .int .i64 0, .int .i64 0, .int .i64 0, .int .i64 0]⟩) := by kernel_rfl
theorem pl93 : PlacesAt Try.prog 93 [(0, 1), (1, 1), (2, 1), (3, 1), (4, 1)] := ⟨_, Try.underlying93, by kernel_rfl⟩
theorem ia93 : IntsAt Try.prog 93 [.i64, .i64, .i64, .i64, .i64] := intsAt_of (by kernel_rfl)
theorem fa93_0 : FieldAt Try.prog 93 0 0 := fieldAt Try.underlying93 rfl rfl ts3 rfl
theorem fa93_1 : FieldAt Try.prog 93 1 1 := fieldAt Try.underlying93 rfl rfl ts3 rfl
theorem fa93_2 : FieldAt Try.prog 93 2 2 := fieldAt Try.underlying93 rfl rfl ts3 rfl
theorem fa93_3 : FieldAt Try.prog 93 3 3 := fieldAt Try.underlying93 rfl rfl ts3 rfl
theorem fa93_4 : FieldAt Try.prog 93 4 4 := fieldAt Try.underlying93 rfl rfl ts3 rfl
theorem tz101 : (Try.prog.info? 101).bind (·.zero) = some (.agg ⟨[.int .i64 0, .int .i64 0, .int .i64 0, .int .i64 0, .int .i64 0, .int .i64 0, .int .i64 0, .int .i64 0, .int .i64 0, .int .i64 0, .int .i64 0, .int .i64 0, .int .i64 0, .int .i64 0]⟩) := by kernel_rfl
theorem pl101 : PlacesAt Try.prog 101 [(0, 4), (4, 1), (5, 1), (6, 1), (7, 1), (8, 1), (9, 1), (10, 1), (11, 1), (12, 1), (13, 1)] := ⟨_, Try.underlying101, by kernel_rfl⟩
theorem fa101_0 : FieldAt Try.prog 101 0 0 := fieldAt Try.underlying101 rfl rfl ts23 rfl
theorem fa101_1 : FieldAt Try.prog 101 1 4 := fieldAt Try.underlying101 rfl rfl ts3 rfl
theorem fa101_2 : FieldAt Try.prog 101 2 5 := fieldAt Try.underlying101 rfl rfl ts3 rfl
theorem fa101_3 : FieldAt Try.prog 101 3 6 := fieldAt Try.underlying101 rfl rfl ts3 rfl
theorem fa101_4 : FieldAt Try.prog 101 4 7 := fieldAt Try.underlying101 rfl rfl ts3 rfl
theorem fa101_5 : FieldAt Try.prog 101 5 8 := fieldAt Try.underlying101 rfl rfl ts3 rfl
theorem fa101_6 : FieldAt Try.prog 101 6 9 := fieldAt Try.underlying101 rfl rfl ts3 rfl
theorem fa101_7 : FieldAt Try.prog 101 7 10 := fieldAt Try.underlying101 rfl rfl ts3 rfl
theorem fa101_8 : FieldAt Try.prog 101 8 11 := fieldAt Try.underlying101 rfl rfl ts3 rfl
theorem fa101_9 : FieldAt Try.prog 101 9 12 := fieldAt Try.underlying101 rfl rfl ts3 rfl
theorem fa101_10 : FieldAt Try.prog 101 10 13 := fieldAt Try.underlying101 rfl rfl ts3 rfl
theorem tz117 : (Try.prog.info? 117).bind (·.zero) = some (.agg ⟨[.int .i64 0, .int .i64 0, .int .i64 0, .int .i64 0, .int .i64 0, .int .i64 0, .int .i64 0, .int .i64 0, .int .i64 0, .int .i64 0, .int .i64 0, .int .i64 0, .int .i64 0, .int .i64 0, .pointer none, .pointer none, .pointer none, .slice none 0 0, .slice none 0 0, .slice none 0 0, .int .i64 0, .int .i64 0]⟩) := by kernel_rfl
theorem pl117 : PlacesAt Try.prog 117 [(0, 14), (14, 1), (15, 1), (16, 1), (17, 1), (18, 1), (19, 1), (20, 2)] := ⟨_, Try.underlying117, by kernel_rfl⟩
theorem fa117_0 : FieldAt Try.prog 117 0 0 := fieldAt Try.underlying117 rfl rfl ts101 rfl
theorem fa117_1 : FieldAt Try.prog 117 1 14 := fieldAt Try.underlying117 rfl rfl ts104 rfl
theorem fa117_2 : FieldAt Try.prog 117 2 15 := fieldAt Try.underlying117 rfl rfl ts107 rfl
theorem fa117_4 : FieldAt Try.prog 117 4 17 := fieldAt Try.underlying117 rfl rfl ts112 rfl
theorem fa117_5 : FieldAt Try.prog 117 5 18 := fieldAt Try.underlying117 rfl rfl ts113 rfl
theorem fa117_6 : FieldAt Try.prog 117 6 19 := fieldAt Try.underlying117 rfl rfl ts76 rfl
theorem tz158 : (Try.prog.info? 158).bind (·.zero) = some (.agg ⟨List.replicate 32 (.int .u8 0) ++ [.int .i64 0, .slice none 0 0, .int .i64 0]⟩) := by kernel_rfl
theorem ti158 : (Try.prog.info? 158).map (fun i => (i.zero, i.size, i.bytes)) = some (some (.agg ⟨List.replicate 32 (.int .u8 0) ++ [.int .i64 0, .slice none 0 0, .int .i64 0]⟩), 35, 72) := by kernel_rfl
theorem fa158_0 : FieldAt Try.prog 158 0 0 := fieldAt Try.underlying158 rfl rfl ts66 rfl
theorem fa158_1 : FieldAt Try.prog 158 1 32 := fieldAt Try.underlying158 rfl rfl ts3 rfl
theorem tz160 : (Try.prog.info? 160).bind (·.zero) = some (.agg ⟨List.replicate 32 (.int .u8 0) ++ [.int .i64 0, .int .i64 0, .bool false, .int .i64 0, .slice none 0 0, .string ⟨#[]⟩, .slice none 0 0]⟩) := by kernel_rfl
theorem ti160 : (Try.prog.info? 160).map (fun i => (i.zero, i.size, i.bytes)) = some (some (.agg ⟨List.replicate 32 (.int .u8 0) ++ [.int .i64 0, .int .i64 0, .bool false, .int .i64 0, .slice none 0 0, .string ⟨#[]⟩, .slice none 0 0]⟩), 39, 128) := by kernel_rfl
theorem fa160_7 : FieldAt Try.prog 160 7 38 := fieldAt Try.underlying160 rfl rfl ts36 rfl
theorem tz164 : (Try.prog.info? 164).bind (·.zero) = some (.agg ⟨List.replicate 32 (.int .u8 0) ++ [.int .i64 0, .int .i64 0]⟩) := by kernel_rfl
theorem ti164 : (Try.prog.info? 164).map (fun i => (i.zero, i.size, i.bytes)) = some (some (.agg ⟨List.replicate 32 (.int .u8 0) ++ [.int .i64 0, .int .i64 0]⟩), 34, 48) := by kernel_rfl
theorem pl164 : PlacesAt Try.prog 164 [(0, 32), (32, 1), (33, 1)] := ⟨_, Try.underlying164, by kernel_rfl⟩
theorem fa164_2 : FieldAt Try.prog 164 2 33 := fieldAt Try.underlying164 rfl rfl ts3 rfl
theorem tz171 : (Try.prog.info? 171).bind (·.zero) = some (.agg ⟨[.slice none 0 0]⟩) := by kernel_rfl
theorem pl171 : PlacesAt Try.prog 171 [(0, 1)] := ⟨_, Try.underlying171, by kernel_rfl⟩
theorem fa171_0 : FieldAt Try.prog 171 0 0 := fieldAt Try.underlying171 rfl rfl ts33 rfl
theorem tz174 : (Try.prog.info? 174).bind (·.zero) = some (.agg ⟨[.slice none 0 0, .int .i64 0]⟩) := by kernel_rfl
theorem pl174 : PlacesAt Try.prog 174 [(0, 1), (1, 1)] := ⟨_, Try.underlying174, by kernel_rfl⟩
theorem fa174_0 : FieldAt Try.prog 174 0 0 := fieldAt Try.underlying174 rfl rfl ts172 rfl
theorem tz178 : (Try.prog.info? 178).bind (·.zero) = some (.agg ⟨[.slice none 0 0, .map none]⟩) := by kernel_rfl
theorem pl178 : PlacesAt Try.prog 178 [(0, 1), (1, 1)] := ⟨_, Try.underlying178, by kernel_rfl⟩
theorem tz214 : (Try.prog.info? 214).bind (·.zero) = some (.agg ⟨List.replicate 2 (.int .i64 0)⟩) := by kernel_rfl
theorem tz215 : (Try.prog.info? 215).bind (·.zero) = some (.agg ⟨List.replicate 2 (.int .i64 0) ++ List.replicate 2 (.int .i64 0) ++ List.replicate 2 (.int .i64 0) ++ List.replicate 2 (.int .i64 0)⟩) := by kernel_rfl
theorem tz257 : (Try.prog.info? 257).bind (·.zero) = some (.agg ⟨List.replicate 8 (.int .u32 0)⟩) := by kernel_rfl
theorem tz259 : (Try.prog.info? 259).bind (·.zero) = some (.agg ⟨List.replicate 8 (.int .u32 0) ++ [.slice none 0 0, .int .u64 0]⟩) := by kernel_rfl
theorem pl259 : PlacesAt Try.prog 259 [(0, 8), (8, 1), (9, 1)] := ⟨_, Try.underlying259, by kernel_rfl⟩
theorem fa259_0 : FieldAt Try.prog 259 0 0 := fieldAt Try.underlying259 rfl rfl ts257 rfl
theorem fa259_1 : FieldAt Try.prog 259 1 8 := fieldAt Try.underlying259 rfl rfl ts33 rfl
theorem fa259_2 : FieldAt Try.prog 259 2 9 := fieldAt Try.underlying259 rfl rfl ts149 rfl
theorem tz273 : (Try.prog.info? 273).bind (·.zero) = some (.agg ⟨List.replicate 64 (.int .u32 0)⟩) := by kernel_rfl
theorem mixed : Try.prog.follows .mixedOrders = true := by kernel_rfl
end Go.Proofs.Ytpagpmioopaciaa
