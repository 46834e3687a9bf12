/- Closed facts on the program's types. -/
import Derived.Test.YtlfepdlbklmmlaaMore
import Derived.Test.YtlfepdlbklmmlaaProg
namespace Go.Proofs.Ytlfepdlbklmmlaa
open Go.Mo
theorem ts2 : (Try.prog.info? 2).map (·.size) = some 1 := by kernel_rfl
theorem ts3 : (Try.prog.info? 3).map (·.size) = some 1 := by kernel_rfl
theorem ts4 : (Try.prog.info? 4).map (·.size) = some 1 := by kernel_rfl
theorem ts5 : (Try.prog.info? 5).map (·.size) = some 1 := by kernel_rfl
theorem ts6 : (Try.prog.info? 6).map (·.size) = some 1 := by kernel_rfl
theorem ts7 : (Try.prog.info? 7).map (·.size) = some 4 := by kernel_rfl
theorem ts8 : (Try.prog.info? 8).map (·.size) = some 4 := by kernel_rfl
theorem ts9 : (Try.prog.info? 9).map (·.size) = some 1 := by kernel_rfl
theorem ts10 : (Try.prog.info? 10).map (·.size) = some 1 := by kernel_rfl
theorem ts11 : (Try.prog.info? 11).map (·.size) = some 1 := by kernel_rfl
theorem ts12 : (Try.prog.info? 12).map (·.size) = some 1 := by kernel_rfl
theorem ts13 : (Try.prog.info? 13).map (·.size) = some 2 := by kernel_rfl
theorem ts14 : (Try.prog.info? 14).map (·.size) = some 2 := by kernel_rfl
theorem ts15 : (Try.prog.info? 15).map (·.size) = some 1 := by kernel_rfl
theorem ts16 : (Try.prog.info? 16).map (·.size) = some 1 := by kernel_rfl
theorem ts17 : (Try.prog.info? 17).map (·.size) = some 1 := by kernel_rfl
theorem ts18 : (Try.prog.info? 18).map (·.size) = some 1 := by kernel_rfl
theorem ts19 : (Try.prog.info? 19).map (·.size) = some 1 := by kernel_rfl
theorem ts20 : (Try.prog.info? 20).map (·.size) = some 1 := by kernel_rfl
theorem ts21 : (Try.prog.info? 21).map (·.size) = some 1 := by kernel_rfl
theorem ts22 : (Try.prog.info? 22).map (·.size) = some 1 := by kernel_rfl
theorem ts23 : (Try.prog.info? 23).map (·.size) = some 1 := by kernel_rfl
theorem ts30 : (Try.prog.info? 30).map (·.size) = some 1 := by kernel_rfl
theorem ts35 : (Try.prog.info? 35).map (·.size) = some 256 := by kernel_rfl
theorem ts39 : (Try.prog.info? 39).map (·.size) = some 1 := by kernel_rfl
theorem ts40 : (Try.prog.info? 40).map (·.size) = some 4 := by kernel_rfl
theorem ts41 : (Try.prog.info? 41).map (·.size) = some 4 := by kernel_rfl
theorem ts42 : (Try.prog.info? 42).map (·.size) = some 1 := by kernel_rfl
theorem ts49 : (Try.prog.info? 49).map (·.size) = some 1 := by kernel_rfl
theorem ts50 : (Try.prog.info? 50).map (·.size) = some 1 := by kernel_rfl
theorem ts52 : (Try.prog.info? 52).map (·.size) = some 1 := by kernel_rfl
theorem ts53 : (Try.prog.info? 53).map (·.size) = some 3 := by kernel_rfl
theorem ts54 : (Try.prog.info? 54).map (·.size) = some 3 := by kernel_rfl
theorem ts57 : (Try.prog.info? 57).map (·.size) = some 2 := by kernel_rfl
theorem ts58 : (Try.prog.info? 58).map (·.size) = some 2 := by kernel_rfl
theorem ts65 : (Try.prog.info? 65).map (·.size) = some 1 := by kernel_rfl
theorem ts68 : (Try.prog.info? 68).map (·.size) = some 1 := by kernel_rfl
theorem ts73 : (Try.prog.info? 73).map (·.size) = some 4 := by kernel_rfl
theorem ts74 : (Try.prog.info? 74).map (·.size) = some 4 := by kernel_rfl
theorem ts75 : (Try.prog.info? 75).map (·.size) = some 1 := by kernel_rfl
theorem ts77 : (Try.prog.info? 77).map (·.size) = some 14 := by kernel_rfl
theorem ts78 : (Try.prog.info? 78).map (·.size) = some 14 := by kernel_rfl
theorem ts81 : (Try.prog.info? 81).map (·.size) = some 1 := by kernel_rfl
theorem ts89 : (Try.prog.info? 89).map (·.size) = some 1 := by kernel_rfl
theorem ts95 : (Try.prog.info? 95).map (·.size) = some 2 := by kernel_rfl
theorem ts96 : (Try.prog.info? 96).map (·.size) = some 2 := by kernel_rfl
theorem ts109 : (Try.prog.info? 109).map (·.size) = some 1 := by kernel_rfl
theorem ts110 : (Try.prog.info? 110).map (·.size) = some 1 := by kernel_rfl
theorem ts113 : (Try.prog.info? 113).map (·.size) = some 32 := by kernel_rfl
theorem ts114 : (Try.prog.info? 114).map (·.size) = some 35 := by kernel_rfl
theorem ts115 : (Try.prog.info? 115).map (·.size) = some 35 := by kernel_rfl
theorem ts124 : (Try.prog.info? 124).map (·.size) = some 1 := by kernel_rfl
theorem ts125 : (Try.prog.info? 125).map (·.size) = some 2 := by kernel_rfl
theorem ts126 : (Try.prog.info? 126).map (·.size) = some 2 := by kernel_rfl
theorem ts127 : (Try.prog.info? 127).map (·.size) = some 1 := by kernel_rfl
theorem ts130 : (Try.prog.info? 130).map (·.size) = some 1 := by kernel_rfl
theorem ts131 : (Try.prog.info? 131).map (·.size) = some 2 := by kernel_rfl
theorem ts132 : (Try.prog.info? 132).map (·.size) = some 2 := by kernel_rfl
theorem ts133 : (Try.prog.info? 133).map (·.size) = some 3 := by kernel_rfl
theorem ts134 : (Try.prog.info? 134).map (·.size) = some 3 := by kernel_rfl
theorem ts136 : (Try.prog.info? 136).map (·.size) = some 1 := by kernel_rfl
theorem ts137 : (Try.prog.info? 137).map (·.size) = some 2 := by kernel_rfl
theorem ts138 : (Try.prog.info? 138).map (·.size) = some 2 := by kernel_rfl
theorem ts139 : (Try.prog.info? 139).map (·.size) = some 3 := by kernel_rfl
theorem ts140 : (Try.prog.info? 140).map (·.size) = some 3 := by kernel_rfl
theorem ts143 : (Try.prog.info? 143).map (·.size) = some 1 := by kernel_rfl
theorem ts145 : (Try.prog.info? 145).map (·.size) = some 2 := by kernel_rfl
theorem ts146 : (Try.prog.info? 146).map (·.size) = some 2 := by kernel_rfl
theorem ts155 : (Try.prog.info? 155).map (·.size) = some 1 := by kernel_rfl
theorem ts156 : (Try.prog.info? 156).map (·.size) = some 1 := by kernel_rfl
theorem ts161 : (Try.prog.info? 161).map (·.size) = some 1 := by kernel_rfl
theorem ts163 : (Try.prog.info? 163).map (·.size) = some 1 := by kernel_rfl
theorem ts164 : (Try.prog.info? 164).map (·.size) = some 1 := by kernel_rfl
theorem ts165 : (Try.prog.info? 165).map (·.size) = some 1 := by kernel_rfl
theorem ts166 : (Try.prog.info? 166).map (·.size) = some 1 := by kernel_rfl
theorem ts167 : (Try.prog.info? 167).map (·.size) = some 1 := by kernel_rfl
theorem ts168 : (Try.prog.info? 168).map (·.size) = some 1 := by kernel_rfl
theorem ts169 : (Try.prog.info? 169).map (·.size) = some 22 := by kernel_rfl
theorem ts170 : (Try.prog.info? 170).map (·.size) = some 22 := by kernel_rfl
theorem ts171 : (Try.prog.info? 171).map (·.size) = some 39 := by kernel_rfl
theorem ts172 : (Try.prog.info? 172).map (·.size) = some 39 := by kernel_rfl
theorem ts173 : (Try.prog.info? 173).map (·.size) = some 4 := by kernel_rfl
theorem ts174 : (Try.prog.info? 174).map (·.size) = some 4 := by kernel_rfl
theorem ts179 : (Try.prog.info? 179).map (·.size) = some 1 := by kernel_rfl
theorem ts180 : (Try.prog.info? 180).map (·.size) = some 2 := by kernel_rfl
theorem ts181 : (Try.prog.info? 181).map (·.size) = some 2 := by kernel_rfl
theorem ts182 : (Try.prog.info? 182).map (·.size) = some 2 := by kernel_rfl
theorem ts183 : (Try.prog.info? 183).map (·.size) = some 8 := by kernel_rfl
theorem ts184 : (Try.prog.info? 184).map (·.size) = some 4 := by kernel_rfl
theorem ts186 : (Try.prog.info? 186).map (·.size) = some 1 := by kernel_rfl
theorem ts188 : (Try.prog.info? 188).map (·.size) = some 1 := by kernel_rfl
theorem ts189 : (Try.prog.info? 189).map (·.size) = some 2 := by kernel_rfl
theorem ts190 : (Try.prog.info? 190).map (·.size) = some 2 := by kernel_rfl
theorem ts191 : (Try.prog.info? 191).map (·.size) = some 34 := by kernel_rfl
theorem ts192 : (Try.prog.info? 192).map (·.size) = some 34 := by kernel_rfl
theorem ts196 : (Try.prog.info? 196).map (·.size) = some 4 := by kernel_rfl
theorem ts197 : (Try.prog.info? 197).map (·.size) = some 4 := by kernel_rfl
theorem ts198 : (Try.prog.info? 198).map (·.size) = some 0 := by kernel_rfl
theorem ts199 : (Try.prog.info? 199).map (·.size) = some 0 := by kernel_rfl
theorem ts200 : (Try.prog.info? 200).map (·.size) = some 0 := by kernel_rfl
theorem ts201 : (Try.prog.info? 201).map (·.size) = some 1 := by kernel_rfl
theorem ts202 : (Try.prog.info? 202).map (·.size) = some 1 := by kernel_rfl
theorem ts204 : (Try.prog.info? 204).map (·.size) = some 1 := by kernel_rfl
theorem ts205 : (Try.prog.info? 205).map (·.size) = some 1 := by kernel_rfl
theorem ts206 : (Try.prog.info? 206).map (·.size) = some 1 := by kernel_rfl
theorem ts207 : (Try.prog.info? 207).map (·.size) = some 11 := by kernel_rfl
theorem ts208 : (Try.prog.info? 208).map (·.size) = some 11 := by kernel_rfl
theorem ts212 : (Try.prog.info? 212).map (·.size) = some 1 := by kernel_rfl
theorem ts213 : (Try.prog.info? 213).map (·.size) = some 1 := by kernel_rfl
theorem ts214 : (Try.prog.info? 214).map (·.size) = some 1 := by kernel_rfl
theorem ts215 : (Try.prog.info? 215).map (·.size) = some 2 := by kernel_rfl
theorem ts216 : (Try.prog.info? 216).map (·.size) = some 2 := by kernel_rfl
theorem ts217 : (Try.prog.info? 217).map (·.size) = some 100 := by kernel_rfl
theorem ts218 : (Try.prog.info? 218).map (·.size) = some 100 := by kernel_rfl
theorem ts220 : (Try.prog.info? 220).map (·.size) = some 1 := by kernel_rfl
theorem ts221 : (Try.prog.info? 221).map (·.size) = some 34 := by kernel_rfl
theorem ts222 : (Try.prog.info? 222).map (·.size) = some 34 := by kernel_rfl
theorem tz2 : (Try.prog.info? 2).bind (·.zero) = some (.int .i64 0) := by kernel_rfl
theorem ti2 : (Try.prog.info? 2).map (fun i => (i.zero, i.size, i.bytes)) = some (some (.int .i64 0), 1, 8) := by kernel_rfl
theorem tz3 : (Try.prog.info? 3).bind (·.zero) = some (.int .i64 0) := by kernel_rfl
theorem ti3 : (Try.prog.info? 3).map (fun i => (i.zero, i.size, i.bytes)) = some (some (.int .i64 0), 1, 8) := by kernel_rfl
theorem tz4 : (Try.prog.info? 4).bind (·.zero) = some (.bool false) := by kernel_rfl
theorem ti4 : (Try.prog.info? 4).map (fun i => (i.zero, i.size, i.bytes)) = some (some (.bool false), 1, 1) := by kernel_rfl
theorem tz5 : (Try.prog.info? 5).bind (·.zero) = some (.int .u8 0) := by kernel_rfl
theorem ti5 : (Try.prog.info? 5).map (fun i => (i.zero, i.size, i.bytes)) = some (some (.int .u8 0), 1, 1) := by kernel_rfl
theorem tz6 : (Try.prog.info? 6).bind (·.zero) = some (.int .u8 0) := by kernel_rfl
theorem ti6 : (Try.prog.info? 6).map (fun i => (i.zero, i.size, i.bytes)) = some (some (.int .u8 0), 1, 1) := by kernel_rfl
theorem tz7 : (Try.prog.info? 7).bind (·.zero) = some (.agg ⟨[.int .i64 0, .int .i64 0, .bool false, .int .u8 0]⟩) := by kernel_rfl
theorem ti7 : (Try.prog.info? 7).map (fun i => (i.zero, i.size, i.bytes)) = some (some (.agg ⟨[.int .i64 0, .int .i64 0, .bool false, .int .u8 0]⟩), 4, 24) := by kernel_rfl
theorem pl7 : PlacesAt Try.prog 7 [(0, 1), (1, 1), (2, 1), (3, 1)] := ⟨_, Try.underlying7, by kernel_rfl⟩
theorem fa7_0 : FieldAt Try.prog 7 0 0 := fieldAt Try.underlying7 rfl rfl ts2 rfl
theorem fa7_1 : FieldAt Try.prog 7 1 1 := fieldAt Try.underlying7 rfl rfl ts3 rfl
theorem fa7_2 : FieldAt Try.prog 7 2 2 := fieldAt Try.underlying7 rfl rfl ts4 rfl
theorem fa7_3 : FieldAt Try.prog 7 3 3 := fieldAt Try.underlying7 rfl rfl ts6 rfl
theorem tz8 : (Try.prog.info? 8).bind (·.zero) = some (.agg ⟨[.int .i64 0, .int .i64 0, .bool false, .int .u8 0]⟩) := by kernel_rfl
theorem ti8 : (Try.prog.info? 8).map (fun i => (i.zero, i.size, i.bytes)) = some (some (.agg ⟨[.int .i64 0, .int .i64 0, .bool false, .int .u8 0]⟩), 4, 24) := by kernel_rfl
theorem pl8 : PlacesAt Try.prog 8 [(0, 1), (1, 1), (2, 1), (3, 1)] := ⟨_, Try.underlying8, by kernel_rfl⟩
theorem fa8_0 : FieldAt Try.prog 8 0 0 := fieldAt Try.underlying8 rfl rfl ts2 rfl
theorem fa8_1 : FieldAt Try.prog 8 1 1 := fieldAt Try.underlying8 rfl rfl ts3 rfl
theorem fa8_2 : FieldAt Try.prog 8 2 2 := fieldAt Try.underlying8 rfl rfl ts4 rfl
theorem fa8_3 : FieldAt Try.prog 8 3 3 := fieldAt Try.underlying8 rfl rfl ts6 rfl
theorem tz9 : (Try.prog.info? 9).bind (·.zero) = some (.string ⟨#[]⟩) := by kernel_rfl
theorem ti9 : (Try.prog.info? 9).map (fun i => (i.zero, i.size, i.bytes)) = some (some (.string ⟨#[]⟩), 1, 16) := by kernel_rfl
theorem tz10 : (Try.prog.info? 10).bind (·.zero) = some (.string ⟨#[]⟩) := by kernel_rfl
theorem ti10 : (Try.prog.info? 10).map (fun i => (i.zero, i.size, i.bytes)) = some (some (.string ⟨#[]⟩), 1, 16) := by kernel_rfl
theorem tz11 : (Try.prog.info? 11).bind (·.zero) = some (.string ⟨#[]⟩) := by kernel_rfl
theorem ti11 : (Try.prog.info? 11).map (fun i => (i.zero, i.size, i.bytes)) = some (some (.string ⟨#[]⟩), 1, 16) := by kernel_rfl
theorem tz12 : (Try.prog.info? 12).bind (·.zero) = some (.int .u64 0) := by kernel_rfl
theorem ti12 : (Try.prog.info? 12).map (fun i => (i.zero, i.size, i.bytes)) = some (some (.int .u64 0), 1, 8) := by kernel_rfl
theorem tz13 : (Try.prog.info? 13).bind (·.zero) = some (.agg ⟨[.string ⟨#[]⟩, .int .u64 0]⟩) := by kernel_rfl
theorem ti13 : (Try.prog.info? 13).map (fun i => (i.zero, i.size, i.bytes)) = some (some (.agg ⟨[.string ⟨#[]⟩, .int .u64 0]⟩), 2, 24) := by kernel_rfl
theorem pl13 : PlacesAt Try.prog 13 [(0, 1), (1, 1)] := ⟨_, Try.underlying13, by kernel_rfl⟩
theorem fa13_0 : FieldAt Try.prog 13 0 0 := fieldAt Try.underlying13 rfl rfl ts9 rfl
theorem fa13_1 : FieldAt Try.prog 13 1 1 := fieldAt Try.underlying13 rfl rfl ts12 rfl
theorem tz14 : (Try.prog.info? 14).bind (·.zero) = some (.agg ⟨[.string ⟨#[]⟩, .int .u64 0]⟩) := by kernel_rfl
theorem ti14 : (Try.prog.info? 14).map (fun i => (i.zero, i.size, i.bytes)) = some (some (.agg ⟨[.string ⟨#[]⟩, .int .u64 0]⟩), 2, 24) := by kernel_rfl
theorem pl14 : PlacesAt Try.prog 14 [(0, 1), (1, 1)] := ⟨_, Try.underlying14, by kernel_rfl⟩
theorem fa14_0 : FieldAt Try.prog 14 0 0 := fieldAt Try.underlying14 rfl rfl ts9 rfl
theorem fa14_1 : FieldAt Try.prog 14 1 1 := fieldAt Try.underlying14 rfl rfl ts12 rfl
theorem tz15 : (Try.prog.info? 15).bind (·.zero) = some (.pointer none) := by kernel_rfl
theorem ti15 : (Try.prog.info? 15).map (fun i => (i.zero, i.size, i.bytes)) = some (some (.pointer none), 1, 8) := by kernel_rfl
theorem tz16 : (Try.prog.info? 16).bind (·.zero) = some (.pointer none) := by kernel_rfl
theorem ti16 : (Try.prog.info? 16).map (fun i => (i.zero, i.size, i.bytes)) = some (some (.pointer none), 1, 8) := by kernel_rfl
theorem tz17 : (Try.prog.info? 17).bind (·.zero) = some (.pointer none) := by kernel_rfl
theorem ti17 : (Try.prog.info? 17).map (fun i => (i.zero, i.size, i.bytes)) = some (some (.pointer none), 1, 8) := by kernel_rfl
theorem tz18 : (Try.prog.info? 18).bind (·.zero) = some (.agg ⟨[.pointer none]⟩) := by kernel_rfl
theorem ti18 : (Try.prog.info? 18).map (fun i => (i.zero, i.size, i.bytes)) = some (some (.agg ⟨[.pointer none]⟩), 1, 8) := by kernel_rfl
theorem pl18 : PlacesAt Try.prog 18 [(0, 1)] := ⟨_, Try.underlying18, by kernel_rfl⟩
theorem fa18_0 : FieldAt Try.prog 18 0 0 := fieldAt Try.underlying18 rfl rfl ts17 rfl
theorem tz19 : (Try.prog.info? 19).bind (·.zero) = some (.agg ⟨[.pointer none]⟩) := by kernel_rfl
theorem ti19 : (Try.prog.info? 19).map (fun i => (i.zero, i.size, i.bytes)) = some (some (.agg ⟨[.pointer none]⟩), 1, 8) := by kernel_rfl
theorem pl19 : PlacesAt Try.prog 19 [(0, 1)] := ⟨_, Try.underlying19, by kernel_rfl⟩
theorem fa19_0 : FieldAt Try.prog 19 0 0 := fieldAt Try.underlying19 rfl rfl ts17 rfl
theorem tz20 : (Try.prog.info? 20).bind (·.zero) = some (.nilIface) := by kernel_rfl
theorem ti20 : (Try.prog.info? 20).map (fun i => (i.zero, i.size, i.bytes)) = some (some (.nilIface), 1, 16) := by kernel_rfl
theorem tz21 : (Try.prog.info? 21).bind (·.zero) = some (.int .i32 0) := by kernel_rfl
theorem ti21 : (Try.prog.info? 21).map (fun i => (i.zero, i.size, i.bytes)) = some (some (.int .i32 0), 1, 4) := by kernel_rfl
theorem tz22 : (Try.prog.info? 22).bind (·.zero) = some (.int .u64 0) := by kernel_rfl
theorem ti22 : (Try.prog.info? 22).map (fun i => (i.zero, i.size, i.bytes)) = some (some (.int .u64 0), 1, 8) := by kernel_rfl
theorem tz23 : (Try.prog.info? 23).bind (·.zero) = some (.slice none 0 0) := by kernel_rfl
theorem ti23 : (Try.prog.info? 23).map (fun i => (i.zero, i.size, i.bytes)) = some (some (.slice none 0 0), 1, 24) := by kernel_rfl
theorem tz30 : (Try.prog.info? 30).bind (·.zero) = some (.int .i64 0) := by kernel_rfl
theorem ti30 : (Try.prog.info? 30).map (fun i => (i.zero, i.size, i.bytes)) = some (some (.int .i64 0), 1, 8) := by kernel_rfl
theorem tz35 : (Try.prog.info? 35).bind (·.zero) = some (.agg ⟨List.replicate 256 (.int .u8 0)⟩) := by kernel_rfl
theorem ti35 : (Try.prog.info? 35).map (fun i => (i.zero, i.size, i.bytes)) = some (some (.agg ⟨List.replicate 256 (.int .u8 0)⟩), 256, 256) := by kernel_rfl
theorem tz39 : (Try.prog.info? 39).bind (·.zero) = some (.slice none 0 0) := by kernel_rfl
theorem ti39 : (Try.prog.info? 39).map (fun i => (i.zero, i.size, i.bytes)) = some (some (.slice none 0 0), 1, 24) := by kernel_rfl
theorem tz40 : (Try.prog.info? 40).bind (·.zero) = some (.agg ⟨[.bool false, .int .u8 0, .int .u64 0, .string ⟨#[]⟩]⟩) := by kernel_rfl
theorem ti40 : (Try.prog.info? 40).map (fun i => (i.zero, i.size, i.bytes)) = some (some (.agg ⟨[.bool false, .int .u8 0, .int .u64 0, .string ⟨#[]⟩]⟩), 4, 32) := by kernel_rfl
theorem pl40 : PlacesAt Try.prog 40 [(0, 1), (1, 1), (2, 1), (3, 1)] := ⟨_, Try.underlying40, by kernel_rfl⟩
theorem fa40_0 : FieldAt Try.prog 40 0 0 := fieldAt Try.underlying40 rfl rfl ts4 rfl
theorem fa40_1 : FieldAt Try.prog 40 1 1 := fieldAt Try.underlying40 rfl rfl ts5 rfl
theorem fa40_2 : FieldAt Try.prog 40 2 2 := fieldAt Try.underlying40 rfl rfl ts22 rfl
theorem fa40_3 : FieldAt Try.prog 40 3 3 := fieldAt Try.underlying40 rfl rfl ts9 rfl
theorem tz41 : (Try.prog.info? 41).bind (·.zero) = some (.agg ⟨[.bool false, .int .u8 0, .int .u64 0, .string ⟨#[]⟩]⟩) := by kernel_rfl
theorem ti41 : (Try.prog.info? 41).map (fun i => (i.zero, i.size, i.bytes)) = some (some (.agg ⟨[.bool false, .int .u8 0, .int .u64 0, .string ⟨#[]⟩]⟩), 4, 32) := by kernel_rfl
theorem pl41 : PlacesAt Try.prog 41 [(0, 1), (1, 1), (2, 1), (3, 1)] := ⟨_, Try.underlying41, by kernel_rfl⟩
theorem fa41_0 : FieldAt Try.prog 41 0 0 := fieldAt Try.underlying41 rfl rfl ts4 rfl
theorem fa41_1 : FieldAt Try.prog 41 1 1 := fieldAt Try.underlying41 rfl rfl ts5 rfl
theorem fa41_2 : FieldAt Try.prog 41 2 2 := fieldAt Try.underlying41 rfl rfl ts22 rfl
theorem fa41_3 : FieldAt Try.prog 41 3 3 := fieldAt Try.underlying41 rfl rfl ts9 rfl
theorem tz42 : (Try.prog.info? 42).bind (·.zero) = some (.pointer none) := by kernel_rfl
theorem ti42 : (Try.prog.info? 42).map (fun i => (i.zero, i.size, i.bytes)) = some (some (.pointer none), 1, 8) := by kernel_rfl
theorem tz49 : (Try.prog.info? 49).bind (·.zero) = some (.slice none 0 0) := by kernel_rfl
theorem ti49 : (Try.prog.info? 49).map (fun i => (i.zero, i.size, i.bytes)) = some (some (.slice none 0 0), 1, 24) := by kernel_rfl
theorem tz50 : (Try.prog.info? 50).bind (·.zero) = some (.pointer none) := by kernel_rfl
theorem ti50 : (Try.prog.info? 50).map (fun i => (i.zero, i.size, i.bytes)) = some (some (.pointer none), 1, 8) := by kernel_rfl
theorem tz52 : (Try.prog.info? 52).bind (·.zero) = some (.slice none 0 0) := by kernel_rfl
theorem ti52 : (Try.prog.info? 52).map (fun i => (i.zero, i.size, i.bytes)) = some (some (.slice none 0 0), 1, 24) := by kernel_rfl
theorem tz53 : (Try.prog.info? 53).bind (·.zero) = some (.agg ⟨[.int .i64 0, .int .i64 0, .int .i64 0]⟩) := by kernel_rfl
theorem ti53 : (Try.prog.info? 53).map (fun i => (i.zero, i.size, i.bytes)) = some (some (.agg ⟨[.int .i64 0, .int .i64 0, .int .i64 0]⟩), 3, 24) := by kernel_rfl
theorem pl53 : PlacesAt Try.prog 53 [(0, 1), (1, 1), (2, 1)] := ⟨_, Try.underlying53, by kernel_rfl⟩
theorem ia53 : IntsAt Try.prog 53 [.i64, .i64, .i64] := intsAt_of (by kernel_rfl)
theorem fa53_0 : FieldAt Try.prog 53 0 0 := fieldAt Try.underlying53 rfl rfl ts3 rfl
theorem fa53_1 : FieldAt Try.prog 53 1 1 := fieldAt Try.underlying53 rfl rfl ts3 rfl
theorem fa53_2 : FieldAt Try.prog 53 2 2 := fieldAt Try.underlying53 rfl rfl ts3 rfl
theorem tz54 : (Try.prog.info? 54).bind (·.zero) = some (.agg ⟨[.int .i64 0, .int .i64 0, .int .i64 0]⟩) := by kernel_rfl
theorem ti54 : (Try.prog.info? 54).map (fun i => (i.zero, i.size, i.bytes)) = some (some (.agg ⟨[.int .i64 0, .int .i64 0, .int .i64 0]⟩), 3, 24) := by kernel_rfl
theorem pl54 : PlacesAt Try.prog 54 [(0, 1), (1, 1), (2, 1)] := ⟨_, Try.underlying54, by kernel_rfl⟩
theorem ia54 : IntsAt Try.prog 54 [.i64, .i64, .i64] := intsAt_of (by kernel_rfl)
theorem fa54_0 : FieldAt Try.prog 54 0 0 := fieldAt Try.underlying54 rfl rfl ts3 rfl
theorem fa54_1 : FieldAt Try.prog 54 1 1 := fieldAt Try.underlying54 rfl rfl ts3 rfl
theorem fa54_2 : FieldAt Try.prog 54 2 2 := fieldAt Try.underlying54 rfl rfl ts3 rfl
theorem tz57 : (Try.prog.info? 57).bind (·.zero) = some (.agg ⟨[.int .i64 0, .int .i64 0]⟩) := by kernel_rfl
theorem ti57 : (Try.prog.info? 57).map (fun i => (i.zero, i.size, i.bytes)) = some (some (.agg ⟨[.int .i64 0, .int .i64 0]⟩), 2, 16) := by kernel_rfl
theorem pl57 : PlacesAt Try.prog 57 [(0, 1), (1, 1)] := ⟨_, Try.underlying57, by kernel_rfl⟩
theorem ia57 : IntsAt Try.prog 57 [.i64, .i64] := intsAt_of (by kernel_rfl)
theorem fa57_0 : FieldAt Try.prog 57 0 0 := fieldAt Try.underlying57 rfl rfl ts3 rfl
theorem fa57_1 : FieldAt Try.prog 57 1 1 := fieldAt Try.underlying57 rfl rfl ts3 rfl
theorem tz58 : (Try.prog.info? 58).bind (·.zero) = some (.agg ⟨[.int .i64 0, .int .i64 0]⟩) := by kernel_rfl
theorem ti58 : (Try.prog.info? 58).map (fun i => (i.zero, i.size, i.bytes)) = some (some (.agg ⟨[.int .i64 0, .int .i64 0]⟩), 2, 16) := by kernel_rfl
theorem pl58 : PlacesAt Try.prog 58 [(0, 1), (1, 1)] := ⟨_, Try.underlying58, by kernel_rfl⟩
theorem ia58 : IntsAt Try.prog 58 [.i64, .i64] := intsAt_of (by kernel_rfl)
theorem fa58_0 : FieldAt Try.prog 58 0 0 := fieldAt Try.underlying58 rfl rfl ts3 rfl
theorem fa58_1 : FieldAt Try.prog 58 1 1 := fieldAt Try.underlying58 rfl rfl ts3 rfl
theorem tz65 : (Try.prog.info? 65).bind (·.zero) = some (.pointer none) := by kernel_rfl
theorem ti65 : (Try.prog.info? 65).map (fun i => (i.zero, i.size, i.bytes)) = some (some (.pointer none), 1, 8) := by kernel_rfl
theorem tz68 : (Try.prog.info? 68).bind (·.zero) = some (.slice none 0 0) := by kernel_rfl
theorem ti68 : (Try.prog.info? 68).map (fun i => (i.zero, i.size, i.bytes)) = some (some (.slice none 0 0), 1, 24) := by kernel_rfl
theorem tz73 : (Try.prog.info? 73).bind (·.zero) = some (.agg ⟨[.int .i64 0, .int .i64 0, .int .i64 0, .int .i64 0]⟩) := by kernel_rfl
theorem ti73 : (Try.prog.info? 73).map (fun i => (i.zero, i.size, i.bytes)) = some (some (.agg ⟨[.int .i64 0, .int .i64 0, .int .i64 0, .int .i64 0]⟩), 4, 32) := by kernel_rfl
theorem pl73 : PlacesAt Try.prog 73 [(0, 1), (1, 1), (2, 1), (3, 1)] := ⟨_, Try.underlying73, by kernel_rfl⟩
theorem ia73 : IntsAt Try.prog 73 [.i64, .i64, .i64, .i64] := intsAt_of (by kernel_rfl)
theorem fa73_0 : FieldAt Try.prog 73 0 0 := fieldAt Try.underlying73 rfl rfl ts3 rfl
theorem fa73_1 : FieldAt Try.prog 73 1 1 := fieldAt Try.underlying73 rfl rfl ts3 rfl
theorem fa73_2 : FieldAt Try.prog 73 2 2 := fieldAt Try.underlying73 rfl rfl ts3 rfl
theorem fa73_3 : FieldAt Try.prog 73 3 3 := fieldAt Try.underlying73 rfl rfl ts3 rfl
theorem tz74 : (Try.prog.info? 74).bind (·.zero) = some (.agg ⟨[.int .i64 0, .int .i64 0, .int .i64 0, .int .i64 0]⟩) := by kernel_rfl
theorem ti74 : (Try.prog.info? 74).map (fun i => (i.zero, i.size, i.bytes)) = some (some (.agg ⟨[.int .i64 0, .int .i64 0, .int .i64 0, .int .i64 0]⟩), 4, 32) := by kernel_rfl
theorem pl74 : PlacesAt Try.prog 74 [(0, 1), (1, 1), (2, 1), (3, 1)] := ⟨_, Try.underlying74, by kernel_rfl⟩
theorem ia74 : IntsAt Try.prog 74 [.i64, .i64, .i64, .i64] := intsAt_of (by kernel_rfl)
theorem fa74_0 : FieldAt Try.prog 74 0 0 := fieldAt Try.underlying74 rfl rfl ts3 rfl
theorem fa74_1 : FieldAt Try.prog 74 1 1 := fieldAt Try.underlying74 rfl rfl ts3 rfl
theorem fa74_2 : FieldAt Try.prog 74 2 2 := fieldAt Try.underlying74 rfl rfl ts3 rfl
theorem fa74_3 : FieldAt Try.prog 74 3 3 := fieldAt Try.underlying74 rfl rfl ts3 rfl
theorem tz75 : (Try.prog.info? 75).bind (·.zero) = some (.slice none 0 0) := by kernel_rfl
theorem ti75 : (Try.prog.info? 75).map (fun i => (i.zero, i.size, i.bytes)) = some (some (.slice none 0 0), 1, 24) := by kernel_rfl
theorem tz77 : (Try.prog.info? 77).bind (·.zero) = some (.agg ⟨[.int .i64 0, .int .i64 0, .int .i64 0, .int .i64 0, .int .i64 0, .int .i64 0, .int .i64 0, .int .i64 0, .int .i64 0, .int .i64 0, .int .i64 0, .int .i64 0, .int .i64 0, .int .i64 0]⟩) := by kernel_rfl
theorem ti77 : (Try.prog.info? 77).map (fun i => (i.zero, i.size, i.bytes)) = some (some (.agg ⟨[.int .i64 0, .int .i64 0, .int .i64 0, .int .i64 0, .int .i64 0, .int .i64 0, .int .i64 0, .int .i64 0, .int .i64 0, .int .i64 0, .int .i64 0, .int .i64 0, .int .i64 0, .int .i64 0]⟩), 14, 112) := by kernel_rfl
theorem pl77 : PlacesAt Try.prog 77 [(0, 4), (4, 1), (5, 1), (6, 1), (7, 1), (8, 1), (9, 1), (10, 1), (11, 1), (12, 1), (13, 1)] := ⟨_, Try.underlying77, by kernel_rfl⟩
theorem fa77_0 : FieldAt Try.prog 77 0 0 := fieldAt Try.underlying77 rfl rfl ts74 rfl
theorem fa77_1 : FieldAt Try.prog 77 1 4 := fieldAt Try.underlying77 rfl rfl ts3 rfl
theorem fa77_2 : FieldAt Try.prog 77 2 5 := fieldAt Try.underlying77 rfl rfl ts3 rfl
theorem fa77_3 : FieldAt Try.prog 77 3 6 := fieldAt Try.underlying77 rfl rfl ts3 rfl
theorem fa77_4 : FieldAt Try.prog 77 4 7 := fieldAt Try.underlying77 rfl rfl ts3 rfl
theorem fa77_5 : FieldAt Try.prog 77 5 8 := fieldAt Try.underlying77 rfl rfl ts3 rfl
theorem fa77_6 : FieldAt Try.prog 77 6 9 := fieldAt Try.underlying77 rfl rfl ts3 rfl
theorem fa77_7 : FieldAt Try.prog 77 7 10 := fieldAt Try.underlying77 rfl rfl ts3 rfl
theorem fa77_8 : FieldAt Try.prog 77 8 11 := fieldAt Try.underlying77 rfl rfl ts3 rfl
theorem fa77_9 : FieldAt Try.prog 77 9 12 := fieldAt Try.underlying77 rfl rfl ts3 rfl
theorem fa77_10 : FieldAt Try.prog 77 10 13 := fieldAt Try.underlying77 rfl rfl ts3 rfl
theorem tz78 : (Try.prog.info? 78).bind (·.zero) = some (.agg ⟨[.int .i64 0, .int .i64 0, .int .i64 0, .int .i64 0, .int .i64 0, .int .i64 0, .int .i64 0, .int .i64 0, .int .i64 0, .int .i64 0, .int .i64 0, .int .i64 0, .int .i64 0, .int .i64 0]⟩) := by kernel_rfl
theorem ti78 : (Try.prog.info? 78).map (fun i => (i.zero, i.size, i.bytes)) = some (some (.agg ⟨[.int .i64 0, .int .i64 0, .int .i64 0, .int .i64 0, .int .i64 0, .int .i64 0, .int .i64 0, .int .i64 0, .int .i64 0, .int .i64 0, .int .i64 0, .int .i64 0, .int .i64 0, .int .i64 0]⟩), 14, 112) := by kernel_rfl
theorem pl78 : PlacesAt Try.prog 78 [(0, 4), (4, 1), (5, 1), (6, 1), (7, 1), (8, 1), (9, 1), (10, 1), (11, 1), (12, 1), (13, 1)] := ⟨_, Try.underlying78, by kernel_rfl⟩
theorem fa78_0 : FieldAt Try.prog 78 0 0 := fieldAt Try.underlying78 rfl rfl ts74 rfl
theorem fa78_1 : FieldAt Try.prog 78 1 4 := fieldAt Try.underlying78 rfl rfl ts3 rfl
theorem fa78_2 : FieldAt Try.prog 78 2 5 := fieldAt Try.underlying78 rfl rfl ts3 rfl
theorem fa78_3 : FieldAt Try.prog 78 3 6 := fieldAt Try.underlying78 rfl rfl ts3 rfl
theorem fa78_4 : FieldAt Try.prog 78 4 7 := fieldAt Try.underlying78 rfl rfl ts3 rfl
theorem fa78_5 : FieldAt Try.prog 78 5 8 := fieldAt Try.underlying78 rfl rfl ts3 rfl
theorem fa78_6 : FieldAt Try.prog 78 6 9 := fieldAt Try.underlying78 rfl rfl ts3 rfl
theorem fa78_7 : FieldAt Try.prog 78 7 10 := fieldAt Try.underlying78 rfl rfl ts3 rfl
theorem fa78_8 : FieldAt Try.prog 78 8 11 := fieldAt Try.underlying78 rfl rfl ts3 rfl
theorem fa78_9 : FieldAt Try.prog 78 9 12 := fieldAt Try.underlying78 rfl rfl ts3 rfl
theorem fa78_10 : FieldAt Try.prog 78 10 13 := fieldAt Try.underlying78 rfl rfl ts3 rfl
theorem tz81 : (Try.prog.info? 81).bind (·.zero) = some (.slice none 0 0) := by kernel_rfl
theorem ti81 : (Try.prog.info? 81).map (fun i => (i.zero, i.size, i.bytes)) = some (some (.slice none 0 0), 1, 24) := by kernel_rfl
theorem tz89 : (Try.prog.info? 89).bind (·.zero) = some (.map none) := by kernel_rfl
theorem ti89 : (Try.prog.info? 89).map (fun i => (i.zero, i.size, i.bytes)) = some (some (.map none), 1, 8) := by kernel_rfl
theorem tz95 : (Try.prog.info? 95).bind (·.zero) = some (.agg ⟨[.int .i64 0, .int .i64 0]⟩) := by kernel_rfl
theorem ti95 : (Try.prog.info? 95).map (fun i => (i.zero, i.size, i.bytes)) = some (some (.agg ⟨[.int .i64 0, .int .i64 0]⟩), 2, 16) := by kernel_rfl
theorem pl95 : PlacesAt Try.prog 95 [(0, 1), (1, 1)] := ⟨_, Try.underlying95, by kernel_rfl⟩
theorem ia95 : IntsAt Try.prog 95 [.i64, .i64] := intsAt_of (by kernel_rfl)
theorem fa95_0 : FieldAt Try.prog 95 0 0 := fieldAt Try.underlying95 rfl rfl ts3 rfl
theorem fa95_1 : FieldAt Try.prog 95 1 1 := fieldAt Try.underlying95 rfl rfl ts3 rfl
theorem tz96 : (Try.prog.info? 96).bind (·.zero) = some (.agg ⟨[.int .i64 0, .int .i64 0]⟩) := by kernel_rfl
theorem ti96 : (Try.prog.info? 96).map (fun i => (i.zero, i.size, i.bytes)) = some (some (.agg ⟨[.int .i64 0, .int .i64 0]⟩), 2, 16) := by kernel_rfl
theorem pl96 : PlacesAt Try.prog 96 [(0, 1), (1, 1)] := ⟨_, Try.underlying96, by kernel_rfl⟩
theorem ia96 : IntsAt Try.prog 96 [.i64, .i64] := intsAt_of (by kernel_rfl)
theorem fa96_0 : FieldAt Try.prog 96 0 0 := fieldAt Try.underlying96 rfl rfl ts3 rfl
theorem fa96_1 : FieldAt Try.prog 96 1 1 := fieldAt Try.underlying96 rfl rfl ts3 rfl
theorem tz109 : (Try.prog.info? 109).bind (·.zero) = some (.slice none 0 0) := by kernel_rfl
theorem ti109 : (Try.prog.info? 109).map (fun i => (i.zero, i.size, i.bytes)) = some (some (.slice none 0 0), 1, 24) := by kernel_rfl
theorem tz110 : (Try.prog.info? 110).bind (·.zero) = some (.int .i64 0) := by kernel_rfl
theorem ti110 : (Try.prog.info? 110).map (fun i => (i.zero, i.size, i.bytes)) = some (some (.int .i64 0), 1, 8) := by kernel_rfl
theorem tz113 : (Try.prog.info? 113).bind (·.zero) = some (.agg ⟨List.replicate 32 (.int .u8 0)⟩) := by kernel_rfl
theorem ti113 : (Try.prog.info? 113).map (fun i => (i.zero, i.size, i.bytes)) = some (some (.agg ⟨List.replicate 32 (.int .u8 0)⟩), 32, 32) := by kernel_rfl
theorem tz114 : (Try.prog.info? 114).bind (·.zero) = some (.agg ⟨List.replicate 32 (.int .u8 0) ++ [.int .i64 0, .slice none 0 0, .int .i64 0]⟩) := by kernel_rfl
theorem ti114 : (Try.prog.info? 114).map (fun i => (i.zero, i.size, i.bytes)) = some (some (.agg ⟨List.replicate 32 (.int .u8 0) ++ [.int .i64 0, .slice none 0 0, .int .i64 0]⟩), 35, 72) := by kernel_rfl
theorem pl114 : PlacesAt Try.prog 114 [(0, 32), (32, 1), (33, 1), (34, 1)] := ⟨_, Try.underlying114, by kernel_rfl⟩
theorem fa114_0 : FieldAt Try.prog 114 0 0 := fieldAt Try.underlying114 rfl rfl ts113 rfl
theorem fa114_1 : FieldAt Try.prog 114 1 32 := fieldAt Try.underlying114 rfl rfl ts3 rfl
theorem fa114_2 : FieldAt Try.prog 114 2 33 := fieldAt Try.underlying114 rfl rfl ts81 rfl
theorem fa114_3 : FieldAt Try.prog 114 3 34 := fieldAt Try.underlying114 rfl rfl ts3 rfl
theorem tz115 : (Try.prog.info? 115).bind (·.zero) = some (.agg ⟨List.replicate 32 (.int .u8 0) ++ [.int .i64 0, .slice none 0 0, .int .i64 0]⟩) := by kernel_rfl
theorem ti115 : (Try.prog.info? 115).map (fun i => (i.zero, i.size, i.bytes)) = some (some (.agg ⟨List.replicate 32 (.int .u8 0) ++ [.int .i64 0, .slice none 0 0, .int .i64 0]⟩), 35, 72) := by kernel_rfl
theorem pl115 : PlacesAt Try.prog 115 [(0, 32), (32, 1), (33, 1), (34, 1)] := ⟨_, Try.underlying115, by kernel_rfl⟩
theorem fa115_0 : FieldAt Try.prog 115 0 0 := fieldAt Try.underlying115 rfl rfl ts113 rfl
theorem fa115_1 : FieldAt Try.prog 115 1 32 := fieldAt Try.underlying115 rfl rfl ts3 rfl
theorem fa115_2 : FieldAt Try.prog 115 2 33 := fieldAt Try.underlying115 rfl rfl ts81 rfl
theorem fa115_3 : FieldAt Try.prog 115 3 34 := fieldAt Try.underlying115 rfl rfl ts3 rfl
theorem tz124 : (Try.prog.info? 124).bind (·.zero) = some (.int .u64 0) := by kernel_rfl
theorem ti124 : (Try.prog.info? 124).map (fun i => (i.zero, i.size, i.bytes)) = some (some (.int .u64 0), 1, 8) := by kernel_rfl
theorem tz125 : (Try.prog.info? 125).bind (·.zero) = some (.agg ⟨[.slice none 0 0, .bool false]⟩) := by kernel_rfl
theorem ti125 : (Try.prog.info? 125).map (fun i => (i.zero, i.size, i.bytes)) = some (some (.agg ⟨[.slice none 0 0, .bool false]⟩), 2, 32) := by kernel_rfl
theorem pl125 : PlacesAt Try.prog 125 [(0, 1), (1, 1)] := ⟨_, Try.underlying125, by kernel_rfl⟩
theorem fa125_0 : FieldAt Try.prog 125 0 0 := fieldAt Try.underlying125 rfl rfl ts23 rfl
theorem fa125_1 : FieldAt Try.prog 125 1 1 := fieldAt Try.underlying125 rfl rfl ts4 rfl
theorem tz126 : (Try.prog.info? 126).bind (·.zero) = some (.agg ⟨[.slice none 0 0, .bool false]⟩) := by kernel_rfl
theorem ti126 : (Try.prog.info? 126).map (fun i => (i.zero, i.size, i.bytes)) = some (some (.agg ⟨[.slice none 0 0, .bool false]⟩), 2, 32) := by kernel_rfl
theorem pl126 : PlacesAt Try.prog 126 [(0, 1), (1, 1)] := ⟨_, Try.underlying126, by kernel_rfl⟩
theorem fa126_0 : FieldAt Try.prog 126 0 0 := fieldAt Try.underlying126 rfl rfl ts23 rfl
theorem fa126_1 : FieldAt Try.prog 126 1 1 := fieldAt Try.underlying126 rfl rfl ts4 rfl
theorem tz127 : (Try.prog.info? 127).bind (·.zero) = some (.pointer none) := by kernel_rfl
theorem ti127 : (Try.prog.info? 127).map (fun i => (i.zero, i.size, i.bytes)) = some (some (.pointer none), 1, 8) := by kernel_rfl
theorem tz130 : (Try.prog.info? 130).bind (·.zero) = some (.slice none 0 0) := by kernel_rfl
theorem ti130 : (Try.prog.info? 130).map (fun i => (i.zero, i.size, i.bytes)) = some (some (.slice none 0 0), 1, 24) := by kernel_rfl
theorem tz131 : (Try.prog.info? 131).bind (·.zero) = some (.agg ⟨[.slice none 0 0, .int .i64 0]⟩) := by kernel_rfl
theorem ti131 : (Try.prog.info? 131).map (fun i => (i.zero, i.size, i.bytes)) = some (some (.agg ⟨[.slice none 0 0, .int .i64 0]⟩), 2, 32) := by kernel_rfl
theorem pl131 : PlacesAt Try.prog 131 [(0, 1), (1, 1)] := ⟨_, Try.underlying131, by kernel_rfl⟩
theorem fa131_0 : FieldAt Try.prog 131 0 0 := fieldAt Try.underlying131 rfl rfl ts130 rfl
theorem fa131_1 : FieldAt Try.prog 131 1 1 := fieldAt Try.underlying131 rfl rfl ts3 rfl
theorem tz132 : (Try.prog.info? 132).bind (·.zero) = some (.agg ⟨[.slice none 0 0, .int .i64 0]⟩) := by kernel_rfl
theorem ti132 : (Try.prog.info? 132).map (fun i => (i.zero, i.size, i.bytes)) = some (some (.agg ⟨[.slice none 0 0, .int .i64 0]⟩), 2, 32) := by kernel_rfl
theorem pl132 : PlacesAt Try.prog 132 [(0, 1), (1, 1)] := ⟨_, Try.underlying132, by kernel_rfl⟩
theorem fa132_0 : FieldAt Try.prog 132 0 0 := fieldAt Try.underlying132 rfl rfl ts130 rfl
theorem fa132_1 : FieldAt Try.prog 132 1 1 := fieldAt Try.underlying132 rfl rfl ts3 rfl
theorem tz133 : (Try.prog.info? 133).bind (·.zero) = some (.agg ⟨[.int .i64 0, .int .i64 0, .int .i64 0]⟩) := by kernel_rfl
theorem ti133 : (Try.prog.info? 133).map (fun i => (i.zero, i.size, i.bytes)) = some (some (.agg ⟨[.int .i64 0, .int .i64 0, .int .i64 0]⟩), 3, 24) := by kernel_rfl
theorem pl133 : PlacesAt Try.prog 133 [(0, 1), (1, 1), (2, 1)] := ⟨_, Try.underlying133, by kernel_rfl⟩
theorem ia133 : IntsAt Try.prog 133 [.i64, .i64, .i64] := intsAt_of (by kernel_rfl)
theorem fa133_0 : FieldAt Try.prog 133 0 0 := fieldAt Try.underlying133 rfl rfl ts3 rfl
theorem fa133_1 : FieldAt Try.prog 133 1 1 := fieldAt Try.underlying133 rfl rfl ts3 rfl
theorem fa133_2 : FieldAt Try.prog 133 2 2 := fieldAt Try.underlying133 rfl rfl ts3 rfl
theorem tz134 : (Try.prog.info? 134).bind (·.zero) = some (.agg ⟨[.int .i64 0, .int .i64 0, .int .i64 0]⟩) := by kernel_rfl
theorem ti134 : (Try.prog.info? 134).map (fun i => (i.zero, i.size, i.bytes)) = some (some (.agg ⟨[.int .i64 0, .int .i64 0, .int .i64 0]⟩), 3, 24) := by kernel_rfl
theorem pl134 : PlacesAt Try.prog 134 [(0, 1), (1, 1), (2, 1)] := ⟨_, Try.underlying134, by kernel_rfl⟩
theorem ia134 : IntsAt Try.prog 134 [.i64, .i64, .i64] := intsAt_of (by kernel_rfl)
theorem fa134_0 : FieldAt Try.prog 134 0 0 := fieldAt Try.underlying134 rfl rfl ts3 rfl
theorem fa134_1 : FieldAt Try.prog 134 1 1 := fieldAt Try.underlying134 rfl rfl ts3 rfl
theorem fa134_2 : FieldAt Try.prog 134 2 2 := fieldAt Try.underlying134 rfl rfl ts3 rfl
theorem tz136 : (Try.prog.info? 136).bind (·.zero) = some (.slice none 0 0) := by kernel_rfl
theorem ti136 : (Try.prog.info? 136).map (fun i => (i.zero, i.size, i.bytes)) = some (some (.slice none 0 0), 1, 24) := by kernel_rfl
theorem tz137 : (Try.prog.info? 137).bind (·.zero) = some (.agg ⟨[.slice none 0 0, .int .i64 0]⟩) := by kernel_rfl
theorem ti137 : (Try.prog.info? 137).map (fun i => (i.zero, i.size, i.bytes)) = some (some (.agg ⟨[.slice none 0 0, .int .i64 0]⟩), 2, 32) := by kernel_rfl
theorem pl137 : PlacesAt Try.prog 137 [(0, 1), (1, 1)] := ⟨_, Try.underlying137, by kernel_rfl⟩
theorem fa137_0 : FieldAt Try.prog 137 0 0 := fieldAt Try.underlying137 rfl rfl ts136 rfl
theorem fa137_1 : FieldAt Try.prog 137 1 1 := fieldAt Try.underlying137 rfl rfl ts3 rfl
theorem tz138 : (Try.prog.info? 138).bind (·.zero) = some (.agg ⟨[.slice none 0 0, .int .i64 0]⟩) := by kernel_rfl
theorem ti138 : (Try.prog.info? 138).map (fun i => (i.zero, i.size, i.bytes)) = some (some (.agg ⟨[.slice none 0 0, .int .i64 0]⟩), 2, 32) := by kernel_rfl
theorem pl138 : PlacesAt Try.prog 138 [(0, 1), (1, 1)] := ⟨_, Try.underlying138, by kernel_rfl⟩
theorem fa138_0 : FieldAt Try.prog 138 0 0 := fieldAt Try.underlying138 rfl rfl ts136 rfl
theorem fa138_1 : FieldAt Try.prog 138 1 1 := fieldAt Try.underlying138 rfl rfl ts3 rfl
theorem tz139 : (Try.prog.info? 139).bind (·.zero) = some (.agg ⟨[.int .i64 0, .int .i64 0, .string ⟨#[]⟩]⟩) := by kernel_rfl
theorem ti139 : (Try.prog.info? 139).map (fun i => (i.zero, i.size, i.bytes)) = some (some (.agg ⟨[.int .i64 0, .int .i64 0, .string ⟨#[]⟩]⟩), 3, 32) := by kernel_rfl
theorem pl139 : PlacesAt Try.prog 139 [(0, 1), (1, 1), (2, 1)] := ⟨_, Try.underlying139, by kernel_rfl⟩
theorem fa139_0 : FieldAt Try.prog 139 0 0 := fieldAt Try.underlying139 rfl rfl ts3 rfl
theorem fa139_1 : FieldAt Try.prog 139 1 1 := fieldAt Try.underlying139 rfl rfl ts3 rfl
theorem fa139_2 : FieldAt Try.prog 139 2 2 := fieldAt Try.underlying139 rfl rfl ts9 rfl
theorem tz140 : (Try.prog.info? 140).bind (·.zero) = some (.agg ⟨[.int .i64 0, .int .i64 0, .string ⟨#[]⟩]⟩) := by kernel_rfl
theorem ti140 : (Try.prog.info? 140).map (fun i => (i.zero, i.size, i.bytes)) = some (some (.agg ⟨[.int .i64 0, .int .i64 0, .string ⟨#[]⟩]⟩), 3, 32) := by kernel_rfl
theorem pl140 : PlacesAt Try.prog 140 [(0, 1), (1, 1), (2, 1)] := ⟨_, Try.underlying140, by kernel_rfl⟩
theorem fa140_0 : FieldAt Try.prog 140 0 0 := fieldAt Try.underlying140 rfl rfl ts3 rfl
theorem fa140_1 : FieldAt Try.prog 140 1 1 := fieldAt Try.underlying140 rfl rfl ts3 rfl
theorem fa140_2 : FieldAt Try.prog 140 2 2 := fieldAt Try.underlying140 rfl rfl ts9 rfl
theorem tz143 : (Try.prog.info? 143).bind (·.zero) = some (.slice none 0 0) := by kernel_rfl
theorem ti143 : (Try.prog.info? 143).map (fun i => (i.zero, i.size, i.bytes)) = some (some (.slice none 0 0), 1, 24) := by kernel_rfl
theorem tz145 : (Try.prog.info? 145).bind (·.zero) = some (.agg ⟨[.int .i64 0, .int .i64 0]⟩) := by kernel_rfl
theorem ti145 : (Try.prog.info? 145).map (fun i => (i.zero, i.size, i.bytes)) = some (some (.agg ⟨[.int .i64 0, .int .i64 0]⟩), 2, 16) := by kernel_rfl
theorem pl145 : PlacesAt Try.prog 145 [(0, 1), (1, 1)] := ⟨_, Try.underlying145, by kernel_rfl⟩
theorem ia145 : IntsAt Try.prog 145 [.i64, .i64] := intsAt_of (by kernel_rfl)
theorem fa145_0 : FieldAt Try.prog 145 0 0 := fieldAt Try.underlying145 rfl rfl ts3 rfl
theorem fa145_1 : FieldAt Try.prog 145 1 1 := fieldAt Try.underlying145 rfl rfl ts3 rfl
theorem tz146 : (Try.prog.info? 146).bind (·.zero) = some (.agg ⟨[.int .i64 0, .int .i64 0]⟩) := by kernel_rfl
theorem ti146 : (Try.prog.info? 146).map (fun i => (i.zero, i.size, i.bytes)) = some (some (.agg ⟨[.int .i64 0, .int .i64 0]⟩), 2, 16) := by kernel_rfl
theorem pl146 : PlacesAt Try.prog 146 [(0, 1), (1, 1)] := ⟨_, Try.underlying146, by kernel_rfl⟩
theorem ia146 : IntsAt Try.prog 146 [.i64, .i64] := intsAt_of (by kernel_rfl)
theorem fa146_0 : FieldAt Try.prog 146 0 0 := fieldAt Try.underlying146 rfl rfl ts3 rfl
theorem fa146_1 : FieldAt Try.prog 146 1 1 := fieldAt Try.underlying146 rfl rfl ts3 rfl
theorem tz155 : (Try.prog.info? 155).bind (·.zero) = some (.nilIface) := by kernel_rfl
theorem ti155 : (Try.prog.info? 155).map (fun i => (i.zero, i.size, i.bytes)) = some (some (.nilIface), 1, 16) := by kernel_rfl
theorem tz156 : (Try.prog.info? 156).bind (·.zero) = some (.nilIface) := by kernel_rfl
theorem ti156 : (Try.prog.info? 156).map (fun i => (i.zero, i.size, i.bytes)) = some (some (.nilIface), 1, 16) := by kernel_rfl
theorem tz161 : (Try.prog.info? 161).bind (·.zero) = some (.pointer none) := by kernel_rfl
theorem ti161 : (Try.prog.info? 161).map (fun i => (i.zero, i.size, i.bytes)) = some (some (.pointer none), 1, 8) := by kernel_rfl
theorem tz163 : (Try.prog.info? 163).bind (·.zero) = some (.pointer none) := by kernel_rfl
theorem ti163 : (Try.prog.info? 163).map (fun i => (i.zero, i.size, i.bytes)) = some (some (.pointer none), 1, 8) := by kernel_rfl
theorem tz164 : (Try.prog.info? 164).bind (·.zero) = some (.pointer none) := by kernel_rfl
theorem ti164 : (Try.prog.info? 164).map (fun i => (i.zero, i.size, i.bytes)) = some (some (.pointer none), 1, 8) := by kernel_rfl
theorem tz165 : (Try.prog.info? 165).bind (·.zero) = some (.pointer none) := by kernel_rfl
theorem ti165 : (Try.prog.info? 165).map (fun i => (i.zero, i.size, i.bytes)) = some (some (.pointer none), 1, 8) := by kernel_rfl
theorem tz166 : (Try.prog.info? 166).bind (·.zero) = some (.slice none 0 0) := by kernel_rfl
theorem ti166 : (Try.prog.info? 166).map (fun i => (i.zero, i.size, i.bytes)) = some (some (.slice none 0 0), 1, 24) := by kernel_rfl
theorem tz167 : (Try.prog.info? 167).bind (·.zero) = some (.slice none 0 0) := by kernel_rfl
theorem ti167 : (Try.prog.info? 167).map (fun i => (i.zero, i.size, i.bytes)) = some (some (.slice none 0 0), 1, 24) := by kernel_rfl
theorem tz168 : (Try.prog.info? 168).bind (·.zero) = some (.slice none 0 0) := by kernel_rfl
theorem ti168 : (Try.prog.info? 168).map (fun i => (i.zero, i.size, i.bytes)) = some (some (.slice none 0 0), 1, 24) := by kernel_rfl
theorem tz169 : (Try.prog.info? 169).bind (·.zero) = some (.agg ⟨[.int .i64 0, .int .i64 0, .int .i64 0, .int .i64 0, .int .i64 0, .int .i64 0, .int .i64 0, .int .i64 0, .int .i64 0, .int .i64 0, .int .i64 0, .int .i64 0, .int .i64 0, .int .i64 0, .pointer none, .pointer none, .pointer none, .slice none 0 0, .slice none 0 0, .slice none 0 0, .int .i64 0, .int .i64 0]⟩) := by kernel_rfl
theorem ti169 : (Try.prog.info? 169).map (fun i => (i.zero, i.size, i.bytes)) = some (some (.agg ⟨[.int .i64 0, .int .i64 0, .int .i64 0, .int .i64 0, .int .i64 0, .int .i64 0, .int .i64 0, .int .i64 0, .int .i64 0, .int .i64 0, .int .i64 0, .int .i64 0, .int .i64 0, .int .i64 0, .pointer none, .pointer none, .pointer none, .slice none 0 0, .slice none 0 0, .slice none 0 0, .int .i64 0, .int .i64 0]⟩), 22, 224) := by kernel_rfl
theorem pl169 : PlacesAt Try.prog 169 [(0, 14), (14, 1), (15, 1), (16, 1), (17, 1), (18, 1), (19, 1), (20, 2)] := ⟨_, Try.underlying169, by kernel_rfl⟩
theorem fa169_0 : FieldAt Try.prog 169 0 0 := fieldAt Try.underlying169 rfl rfl ts78 rfl
theorem fa169_1 : FieldAt Try.prog 169 1 14 := fieldAt Try.underlying169 rfl rfl ts163 rfl
theorem fa169_2 : FieldAt Try.prog 169 2 15 := fieldAt Try.underlying169 rfl rfl ts164 rfl
theorem fa169_3 : FieldAt Try.prog 169 3 16 := fieldAt Try.underlying169 rfl rfl ts165 rfl
theorem fa169_4 : FieldAt Try.prog 169 4 17 := fieldAt Try.underlying169 rfl rfl ts166 rfl
theorem fa169_5 : FieldAt Try.prog 169 5 18 := fieldAt Try.underlying169 rfl rfl ts167 rfl
theorem fa169_6 : FieldAt Try.prog 169 6 19 := fieldAt Try.underlying169 rfl rfl ts168 rfl
theorem fa169_7 : FieldAt Try.prog 169 7 20 := fieldAt Try.underlying169 rfl rfl ts96 rfl
theorem tz170 : (Try.prog.info? 170).bind (·.zero) = some (.agg ⟨[.int .i64 0, .int .i64 0, .int .i64 0, .int .i64 0, .int .i64 0, .int .i64 0, .int .i64 0, .int .i64 0, .int .i64 0, .int .i64 0, .int .i64 0, .int .i64 0, .int .i64 0, .int .i64 0, .pointer none, .pointer none, .pointer none, .slice none 0 0, .slice none 0 0, .slice none 0 0, .int .i64 0, .int .i64 0]⟩) := by kernel_rfl
theorem ti170 : (Try.prog.info? 170).map (fun i => (i.zero, i.size, i.bytes)) = some (some (.agg ⟨[.int .i64 0, .int .i64 0, .int .i64 0, .int .i64 0, .int .i64 0, .int .i64 0, .int .i64 0, .int .i64 0, .int .i64 0, .int .i64 0, .int .i64 0, .int .i64 0, .int .i64 0, .int .i64 0, .pointer none, .pointer none, .pointer none, .slice none 0 0, .slice none 0 0, .slice none 0 0, .int .i64 0, .int .i64 0]⟩), 22, 224) := by kernel_rfl
theorem pl170 : PlacesAt Try.prog 170 [(0, 14), (14, 1), (15, 1), (16, 1), (17, 1), (18, 1), (19, 1), (20, 2)] := ⟨_, Try.underlying170, by kernel_rfl⟩
theorem fa170_0 : FieldAt Try.prog 170 0 0 := fieldAt Try.underlying170 rfl rfl ts78 rfl
theorem fa170_1 : FieldAt Try.prog 170 1 14 := fieldAt Try.underlying170 rfl rfl ts163 rfl
theorem fa170_2 : FieldAt Try.prog 170 2 15 := fieldAt Try.underlying170 rfl rfl ts164 rfl
theorem fa170_3 : FieldAt Try.prog 170 3 16 := fieldAt Try.underlying170 rfl rfl ts165 rfl
theorem fa170_4 : FieldAt Try.prog 170 4 17 := fieldAt Try.underlying170 rfl rfl ts166 rfl
theorem fa170_5 : FieldAt Try.prog 170 5 18 := fieldAt Try.underlying170 rfl rfl ts167 rfl
theorem fa170_6 : FieldAt Try.prog 170 6 19 := fieldAt Try.underlying170 rfl rfl ts168 rfl
theorem fa170_7 : FieldAt Try.prog 170 7 20 := fieldAt Try.underlying170 rfl rfl ts96 rfl
theorem tz171 : (Try.prog.info? 171).bind (·.zero) = some (.agg ⟨List.replicate 32 (.int .u8 0) ++ [.int .i64 0, .int .i64 0, .bool false, .int .i64 0, .slice none 0 0, .string ⟨#[]⟩, .slice none 0 0]⟩) := by kernel_rfl
theorem ti171 : (Try.prog.info? 171).map (fun i => (i.zero, i.size, i.bytes)) = some (some (.agg ⟨List.replicate 32 (.int .u8 0) ++ [.int .i64 0, .int .i64 0, .bool false, .int .i64 0, .slice none 0 0, .string ⟨#[]⟩, .slice none 0 0]⟩), 39, 128) := by kernel_rfl
theorem pl171 : PlacesAt Try.prog 171 [(0, 32), (32, 1), (33, 1), (34, 1), (35, 1), (36, 1), (37, 1), (38, 1)] := ⟨_, Try.underlying171, by kernel_rfl⟩
theorem fa171_0 : FieldAt Try.prog 171 0 0 := fieldAt Try.underlying171 rfl rfl ts113 rfl
theorem fa171_1 : FieldAt Try.prog 171 1 32 := fieldAt Try.underlying171 rfl rfl ts3 rfl
theorem fa171_2 : FieldAt Try.prog 171 2 33 := fieldAt Try.underlying171 rfl rfl ts3 rfl
theorem fa171_3 : FieldAt Try.prog 171 3 34 := fieldAt Try.underlying171 rfl rfl ts4 rfl
theorem fa171_4 : FieldAt Try.prog 171 4 35 := fieldAt Try.underlying171 rfl rfl ts3 rfl
theorem fa171_5 : FieldAt Try.prog 171 5 36 := fieldAt Try.underlying171 rfl rfl ts68 rfl
theorem fa171_6 : FieldAt Try.prog 171 6 37 := fieldAt Try.underlying171 rfl rfl ts9 rfl
theorem fa171_7 : FieldAt Try.prog 171 7 38 := fieldAt Try.underlying171 rfl rfl ts81 rfl
theorem tz172 : (Try.prog.info? 172).bind (·.zero) = some (.agg ⟨List.replicate 32 (.int .u8 0) ++ [.int .i64 0, .int .i64 0, .bool false, .int .i64 0, .slice none 0 0, .string ⟨#[]⟩, .slice none 0 0]⟩) := by kernel_rfl
theorem ti172 : (Try.prog.info? 172).map (fun i => (i.zero, i.size, i.bytes)) = some (some (.agg ⟨List.replicate 32 (.int .u8 0) ++ [.int .i64 0, .int .i64 0, .bool false, .int .i64 0, .slice none 0 0, .string ⟨#[]⟩, .slice none 0 0]⟩), 39, 128) := by kernel_rfl
theorem pl172 : PlacesAt Try.prog 172 [(0, 32), (32, 1), (33, 1), (34, 1), (35, 1), (36, 1), (37, 1), (38, 1)] := ⟨_, Try.underlying172, by kernel_rfl⟩
theorem fa172_0 : FieldAt Try.prog 172 0 0 := fieldAt Try.underlying172 rfl rfl ts113 rfl
theorem fa172_1 : FieldAt Try.prog 172 1 32 := fieldAt Try.underlying172 rfl rfl ts3 rfl
theorem fa172_2 : FieldAt Try.prog 172 2 33 := fieldAt Try.underlying172 rfl rfl ts3 rfl
theorem fa172_3 : FieldAt Try.prog 172 3 34 := fieldAt Try.underlying172 rfl rfl ts4 rfl
theorem fa172_4 : FieldAt Try.prog 172 4 35 := fieldAt Try.underlying172 rfl rfl ts3 rfl
theorem fa172_5 : FieldAt Try.prog 172 5 36 := fieldAt Try.underlying172 rfl rfl ts68 rfl
theorem fa172_6 : FieldAt Try.prog 172 6 37 := fieldAt Try.underlying172 rfl rfl ts9 rfl
theorem fa172_7 : FieldAt Try.prog 172 7 38 := fieldAt Try.underlying172 rfl rfl ts81 rfl
theorem tz173 : (Try.prog.info? 173).bind (·.zero) = some (.agg ⟨[.string ⟨#[]⟩, .int .i64 0, .bool false, .bool false]⟩) := by kernel_rfl
theorem ti173 : (Try.prog.info? 173).map (fun i => (i.zero, i.size, i.bytes)) = some (some (.agg ⟨[.string ⟨#[]⟩, .int .i64 0, .bool false, .bool false]⟩), 4, 32) := by kernel_rfl
theorem pl173 : PlacesAt Try.prog 173 [(0, 1), (1, 1), (2, 1), (3, 1)] := ⟨_, Try.underlying173, by kernel_rfl⟩
theorem fa173_0 : FieldAt Try.prog 173 0 0 := fieldAt Try.underlying173 rfl rfl ts9 rfl
theorem fa173_1 : FieldAt Try.prog 173 1 1 := fieldAt Try.underlying173 rfl rfl ts3 rfl
theorem fa173_2 : FieldAt Try.prog 173 2 2 := fieldAt Try.underlying173 rfl rfl ts4 rfl
theorem fa173_3 : FieldAt Try.prog 173 3 3 := fieldAt Try.underlying173 rfl rfl ts4 rfl
theorem tz174 : (Try.prog.info? 174).bind (·.zero) = some (.agg ⟨[.string ⟨#[]⟩, .int .i64 0, .bool false, .bool false]⟩) := by kernel_rfl
theorem ti174 : (Try.prog.info? 174).map (fun i => (i.zero, i.size, i.bytes)) = some (some (.agg ⟨[.string ⟨#[]⟩, .int .i64 0, .bool false, .bool false]⟩), 4, 32) := by kernel_rfl
theorem pl174 : PlacesAt Try.prog 174 [(0, 1), (1, 1), (2, 1), (3, 1)] := ⟨_, Try.underlying174, by kernel_rfl⟩
theorem fa174_0 : FieldAt Try.prog 174 0 0 := fieldAt Try.underlying174 rfl rfl ts9 rfl
theorem fa174_1 : FieldAt Try.prog 174 1 1 := fieldAt Try.underlying174 rfl rfl ts3 rfl
theorem fa174_2 : FieldAt Try.prog 174 2 2 := fieldAt Try.underlying174 rfl rfl ts4 rfl
theorem fa174_3 : FieldAt Try.prog 174 3 3 := fieldAt Try.underlying174 rfl rfl ts4 rfl
theorem tz179 : (Try.prog.info? 179).bind (·.zero) = some (.slice none 0 0) := by kernel_rfl
theorem ti179 : (Try.prog.info? 179).map (fun i => (i.zero, i.size, i.bytes)) = some (some (.slice none 0 0), 1, 24) := by kernel_rfl
theorem tz180 : (Try.prog.info? 180).bind (·.zero) = some (.agg ⟨[.slice none 0 0, .int .i64 0]⟩) := by kernel_rfl
theorem ti180 : (Try.prog.info? 180).map (fun i => (i.zero, i.size, i.bytes)) = some (some (.agg ⟨[.slice none 0 0, .int .i64 0]⟩), 2, 32) := by kernel_rfl
theorem pl180 : PlacesAt Try.prog 180 [(0, 1), (1, 1)] := ⟨_, Try.underlying180, by kernel_rfl⟩
theorem fa180_0 : FieldAt Try.prog 180 0 0 := fieldAt Try.underlying180 rfl rfl ts179 rfl
theorem fa180_1 : FieldAt Try.prog 180 1 1 := fieldAt Try.underlying180 rfl rfl ts3 rfl
theorem tz181 : (Try.prog.info? 181).bind (·.zero) = some (.agg ⟨[.slice none 0 0, .int .i64 0]⟩) := by kernel_rfl
theorem ti181 : (Try.prog.info? 181).map (fun i => (i.zero, i.size, i.bytes)) = some (some (.agg ⟨[.slice none 0 0, .int .i64 0]⟩), 2, 32) := by kernel_rfl
theorem pl181 : PlacesAt Try.prog 181 [(0, 1), (1, 1)] := ⟨_, Try.underlying181, by kernel_rfl⟩
theorem fa181_0 : FieldAt Try.prog 181 0 0 := fieldAt Try.underlying181 rfl rfl ts179 rfl
theorem fa181_1 : FieldAt Try.prog 181 1 1 := fieldAt Try.underlying181 rfl rfl ts3 rfl
theorem tz182 : (Try.prog.info? 182).bind (·.zero) = some (.agg ⟨List.replicate 2 (.int .i64 0)⟩) := by kernel_rfl
theorem ti182 : (Try.prog.info? 182).map (fun i => (i.zero, i.size, i.bytes)) = some (some (.agg ⟨List.replicate 2 (.int .i64 0)⟩), 2, 16) := by kernel_rfl
theorem tz183 : (Try.prog.info? 183).bind (·.zero) = some (.agg ⟨List.replicate 2 (.int .i64 0) ++ List.replicate 2 (.int .i64 0) ++ List.replicate 2 (.int .i64 0) ++ List.replicate 2 (.int .i64 0)⟩) := by kernel_rfl
theorem ti183 : (Try.prog.info? 183).map (fun i => (i.zero, i.size, i.bytes)) = some (some (.agg ⟨List.replicate 2 (.int .i64 0) ++ List.replicate 2 (.int .i64 0) ++ List.replicate 2 (.int .i64 0) ++ List.replicate 2 (.int .i64 0)⟩), 8, 64) := by kernel_rfl
theorem tz184 : (Try.prog.info? 184).bind (·.zero) = some (.agg ⟨List.replicate 4 (.int .u8 0)⟩) := by kernel_rfl
theorem ti184 : (Try.prog.info? 184).map (fun i => (i.zero, i.size, i.bytes)) = some (some (.agg ⟨List.replicate 4 (.int .u8 0)⟩), 4, 4) := by kernel_rfl
theorem tz186 : (Try.prog.info? 186).bind (·.zero) = some (.int .u32 0) := by kernel_rfl
theorem ti186 : (Try.prog.info? 186).map (fun i => (i.zero, i.size, i.bytes)) = some (some (.int .u32 0), 1, 4) := by kernel_rfl
theorem tz188 : (Try.prog.info? 188).bind (·.zero) = some (.slice none 0 0) := by kernel_rfl
theorem ti188 : (Try.prog.info? 188).map (fun i => (i.zero, i.size, i.bytes)) = some (some (.slice none 0 0), 1, 24) := by kernel_rfl
theorem tz189 : (Try.prog.info? 189).bind (·.zero) = some (.agg ⟨[.slice none 0 0, .map none]⟩) := by kernel_rfl
theorem ti189 : (Try.prog.info? 189).map (fun i => (i.zero, i.size, i.bytes)) = some (some (.agg ⟨[.slice none 0 0, .map none]⟩), 2, 32) := by kernel_rfl
theorem pl189 : PlacesAt Try.prog 189 [(0, 1), (1, 1)] := ⟨_, Try.underlying189, by kernel_rfl⟩
theorem fa189_0 : FieldAt Try.prog 189 0 0 := fieldAt Try.underlying189 rfl rfl ts188 rfl
theorem fa189_1 : FieldAt Try.prog 189 1 1 := fieldAt Try.underlying189 rfl rfl ts89 rfl
theorem tz190 : (Try.prog.info? 190).bind (·.zero) = some (.agg ⟨[.slice none 0 0, .map none]⟩) := by kernel_rfl
theorem ti190 : (Try.prog.info? 190).map (fun i => (i.zero, i.size, i.bytes)) = some (some (.agg ⟨[.slice none 0 0, .map none]⟩), 2, 32) := by kernel_rfl
theorem pl190 : PlacesAt Try.prog 190 [(0, 1), (1, 1)] := ⟨_, Try.underlying190, by kernel_rfl⟩
theorem fa190_0 : FieldAt Try.prog 190 0 0 := fieldAt Try.underlying190 rfl rfl ts188 rfl
theorem fa190_1 : FieldAt Try.prog 190 1 1 := fieldAt Try.underlying190 rfl rfl ts89 rfl
theorem tz191 : (Try.prog.info? 191).bind (·.zero) = some (.agg ⟨[.int .i64 0, .int .i64 0] ++ List.replicate 32 (.int .u8 0)⟩) := by kernel_rfl
theorem ti191 : (Try.prog.info? 191).map (fun i => (i.zero, i.size, i.bytes)) = some (some (.agg ⟨[.int .i64 0, .int .i64 0] ++ List.replicate 32 (.int .u8 0)⟩), 34, 48) := by kernel_rfl
theorem pl191 : PlacesAt Try.prog 191 [(0, 1), (1, 1), (2, 32)] := ⟨_, Try.underlying191, by kernel_rfl⟩
theorem fa191_0 : FieldAt Try.prog 191 0 0 := fieldAt Try.underlying191 rfl rfl ts3 rfl
theorem fa191_1 : FieldAt Try.prog 191 1 1 := fieldAt Try.underlying191 rfl rfl ts3 rfl
theorem fa191_2 : FieldAt Try.prog 191 2 2 := fieldAt Try.underlying191 rfl rfl ts113 rfl
theorem tz192 : (Try.prog.info? 192).bind (·.zero) = some (.agg ⟨[.int .i64 0, .int .i64 0] ++ List.replicate 32 (.int .u8 0)⟩) := by kernel_rfl
theorem ti192 : (Try.prog.info? 192).map (fun i => (i.zero, i.size, i.bytes)) = some (some (.agg ⟨[.int .i64 0, .int .i64 0] ++ List.replicate 32 (.int .u8 0)⟩), 34, 48) := by kernel_rfl
theorem pl192 : PlacesAt Try.prog 192 [(0, 1), (1, 1), (2, 32)] := ⟨_, Try.underlying192, by kernel_rfl⟩
theorem fa192_0 : FieldAt Try.prog 192 0 0 := fieldAt Try.underlying192 rfl rfl ts3 rfl
theorem fa192_1 : FieldAt Try.prog 192 1 1 := fieldAt Try.underlying192 rfl rfl ts3 rfl
theorem fa192_2 : FieldAt Try.prog 192 2 2 := fieldAt Try.underlying192 rfl rfl ts113 rfl
theorem tz196 : (Try.prog.info? 196).bind (·.zero) = some (.agg ⟨[.pointer none, .pointer none, .pointer none, .string ⟨#[]⟩]⟩) := by kernel_rfl
theorem ti196 : (Try.prog.info? 196).map (fun i => (i.zero, i.size, i.bytes)) = some (some (.agg ⟨[.pointer none, .pointer none, .pointer none, .string ⟨#[]⟩]⟩), 4, 40) := by kernel_rfl
theorem pl196 : PlacesAt Try.prog 196 [(0, 1), (1, 1), (2, 1), (3, 1)] := ⟨_, Try.underlying196, by kernel_rfl⟩
theorem fa196_0 : FieldAt Try.prog 196 0 0 := fieldAt Try.underlying196 rfl rfl ts17 rfl
theorem fa196_1 : FieldAt Try.prog 196 1 1 := fieldAt Try.underlying196 rfl rfl ts17 rfl
theorem fa196_2 : FieldAt Try.prog 196 2 2 := fieldAt Try.underlying196 rfl rfl ts17 rfl
theorem fa196_3 : FieldAt Try.prog 196 3 3 := fieldAt Try.underlying196 rfl rfl ts9 rfl
theorem tz197 : (Try.prog.info? 197).bind (·.zero) = some (.agg ⟨[.pointer none, .pointer none, .pointer none, .string ⟨#[]⟩]⟩) := by kernel_rfl
theorem ti197 : (Try.prog.info? 197).map (fun i => (i.zero, i.size, i.bytes)) = some (some (.agg ⟨[.pointer none, .pointer none, .pointer none, .string ⟨#[]⟩]⟩), 4, 40) := by kernel_rfl
theorem pl197 : PlacesAt Try.prog 197 [(0, 1), (1, 1), (2, 1), (3, 1)] := ⟨_, Try.underlying197, by kernel_rfl⟩
theorem fa197_0 : FieldAt Try.prog 197 0 0 := fieldAt Try.underlying197 rfl rfl ts17 rfl
theorem fa197_1 : FieldAt Try.prog 197 1 1 := fieldAt Try.underlying197 rfl rfl ts17 rfl
theorem fa197_2 : FieldAt Try.prog 197 2 2 := fieldAt Try.underlying197 rfl rfl ts17 rfl
theorem fa197_3 : FieldAt Try.prog 197 3 3 := fieldAt Try.underlying197 rfl rfl ts9 rfl
theorem tz198 : (Try.prog.info? 198).bind (·.zero) = some (.agg ⟨List.replicate 0 (.pointer none)⟩) := by kernel_rfl
theorem ti198 : (Try.prog.info? 198).map (fun i => (i.zero, i.size, i.bytes)) = some (some (.agg ⟨List.replicate 0 (.pointer none)⟩), 0, 0) := by kernel_rfl
theorem tz199 : (Try.prog.info? 199).bind (·.zero) = some (.agg ⟨List.replicate 0 (.pointer none)⟩) := by kernel_rfl
theorem ti199 : (Try.prog.info? 199).map (fun i => (i.zero, i.size, i.bytes)) = some (some (.agg ⟨List.replicate 0 (.pointer none)⟩), 0, 0) := by kernel_rfl
theorem pl199 : PlacesAt Try.prog 199 [(0, 0)] := ⟨_, Try.underlying199, by kernel_rfl⟩
theorem tz200 : (Try.prog.info? 200).bind (·.zero) = some (.agg ⟨List.replicate 0 (.pointer none)⟩) := by kernel_rfl
theorem ti200 : (Try.prog.info? 200).map (fun i => (i.zero, i.size, i.bytes)) = some (some (.agg ⟨List.replicate 0 (.pointer none)⟩), 0, 0) := by kernel_rfl
theorem pl200 : PlacesAt Try.prog 200 [(0, 0)] := ⟨_, Try.underlying200, by kernel_rfl⟩
theorem tz201 : (Try.prog.info? 201).bind (·.zero) = some (.int .u8 0) := by kernel_rfl
theorem ti201 : (Try.prog.info? 201).map (fun i => (i.zero, i.size, i.bytes)) = some (some (.int .u8 0), 1, 1) := by kernel_rfl
theorem tz202 : (Try.prog.info? 202).bind (·.zero) = some (.int .u8 0) := by kernel_rfl
theorem ti202 : (Try.prog.info? 202).map (fun i => (i.zero, i.size, i.bytes)) = some (some (.int .u8 0), 1, 1) := by kernel_rfl
theorem tz204 : (Try.prog.info? 204).bind (·.zero) = some (.pointer none) := by kernel_rfl
theorem ti204 : (Try.prog.info? 204).map (fun i => (i.zero, i.size, i.bytes)) = some (some (.pointer none), 1, 8) := by kernel_rfl
theorem tz205 : (Try.prog.info? 205).bind (·.zero) = some (.int .i32 0) := by kernel_rfl
theorem ti205 : (Try.prog.info? 205).map (fun i => (i.zero, i.size, i.bytes)) = some (some (.int .i32 0), 1, 4) := by kernel_rfl
theorem tz206 : (Try.prog.info? 206).bind (·.zero) = some (.int .i32 0) := by kernel_rfl
theorem ti206 : (Try.prog.info? 206).map (fun i => (i.zero, i.size, i.bytes)) = some (some (.int .i32 0), 1, 4) := by kernel_rfl
theorem tz207 : (Try.prog.info? 207).bind (·.zero) = some (.agg ⟨[.int .u64 0, .int .u64 0, .int .u32 0, .int .u8 0, .int .u8 0, .int .u8 0, .int .u8 0, .nilFunc, .pointer none, .int .i32 0, .int .i32 0]⟩) := by kernel_rfl
theorem ti207 : (Try.prog.info? 207).map (fun i => (i.zero, i.size, i.bytes)) = some (some (.agg ⟨[.int .u64 0, .int .u64 0, .int .u32 0, .int .u8 0, .int .u8 0, .int .u8 0, .int .u8 0, .nilFunc, .pointer none, .int .i32 0, .int .i32 0]⟩), 11, 48) := by kernel_rfl
theorem fa207_0 : FieldAt Try.prog 207 0 0 := fieldAt Try.underlying207 rfl rfl ts12 rfl
theorem fa207_1 : FieldAt Try.prog 207 1 1 := fieldAt Try.underlying207 rfl rfl ts12 rfl
theorem fa207_2 : FieldAt Try.prog 207 2 2 := fieldAt Try.underlying207 rfl rfl ts186 rfl
theorem fa207_3 : FieldAt Try.prog 207 3 3 := fieldAt Try.underlying207 rfl rfl ts201 rfl
theorem fa207_4 : FieldAt Try.prog 207 4 4 := fieldAt Try.underlying207 rfl rfl ts5 rfl
theorem fa207_5 : FieldAt Try.prog 207 5 5 := fieldAt Try.underlying207 rfl rfl ts5 rfl
theorem fa207_6 : FieldAt Try.prog 207 6 6 := fieldAt Try.underlying207 rfl rfl ts202 rfl
theorem fa207_8 : FieldAt Try.prog 207 8 8 := fieldAt Try.underlying207 rfl rfl ts204 rfl
theorem fa207_9 : FieldAt Try.prog 207 9 9 := fieldAt Try.underlying207 rfl rfl ts205 rfl
theorem fa207_10 : FieldAt Try.prog 207 10 10 := fieldAt Try.underlying207 rfl rfl ts206 rfl
theorem tz208 : (Try.prog.info? 208).bind (·.zero) = some (.agg ⟨[.int .u64 0, .int .u64 0, .int .u32 0, .int .u8 0, .int .u8 0, .int .u8 0, .int .u8 0, .nilFunc, .pointer none, .int .i32 0, .int .i32 0]⟩) := by kernel_rfl
theorem ti208 : (Try.prog.info? 208).map (fun i => (i.zero, i.size, i.bytes)) = some (some (.agg ⟨[.int .u64 0, .int .u64 0, .int .u32 0, .int .u8 0, .int .u8 0, .int .u8 0, .int .u8 0, .nilFunc, .pointer none, .int .i32 0, .int .i32 0]⟩), 11, 48) := by kernel_rfl
theorem fa208_0 : FieldAt Try.prog 208 0 0 := fieldAt Try.underlying208 rfl rfl ts12 rfl
theorem fa208_1 : FieldAt Try.prog 208 1 1 := fieldAt Try.underlying208 rfl rfl ts12 rfl
theorem fa208_2 : FieldAt Try.prog 208 2 2 := fieldAt Try.underlying208 rfl rfl ts186 rfl
theorem fa208_3 : FieldAt Try.prog 208 3 3 := fieldAt Try.underlying208 rfl rfl ts201 rfl
theorem fa208_4 : FieldAt Try.prog 208 4 4 := fieldAt Try.underlying208 rfl rfl ts5 rfl
theorem fa208_5 : FieldAt Try.prog 208 5 5 := fieldAt Try.underlying208 rfl rfl ts5 rfl
theorem fa208_6 : FieldAt Try.prog 208 6 6 := fieldAt Try.underlying208 rfl rfl ts202 rfl
theorem fa208_8 : FieldAt Try.prog 208 8 8 := fieldAt Try.underlying208 rfl rfl ts204 rfl
theorem fa208_9 : FieldAt Try.prog 208 9 9 := fieldAt Try.underlying208 rfl rfl ts205 rfl
theorem fa208_10 : FieldAt Try.prog 208 10 10 := fieldAt Try.underlying208 rfl rfl ts206 rfl
theorem tz212 : (Try.prog.info? 212).bind (·.zero) = some (.agg ⟨[.slice none 0 0]⟩) := by kernel_rfl
theorem ti212 : (Try.prog.info? 212).map (fun i => (i.zero, i.size, i.bytes)) = some (some (.agg ⟨[.slice none 0 0]⟩), 1, 24) := by kernel_rfl
theorem pl212 : PlacesAt Try.prog 212 [(0, 1)] := ⟨_, Try.underlying212, by kernel_rfl⟩
theorem fa212_0 : FieldAt Try.prog 212 0 0 := fieldAt Try.underlying212 rfl rfl ts23 rfl
theorem tz213 : (Try.prog.info? 213).bind (·.zero) = some (.agg ⟨[.slice none 0 0]⟩) := by kernel_rfl
theorem ti213 : (Try.prog.info? 213).map (fun i => (i.zero, i.size, i.bytes)) = some (some (.agg ⟨[.slice none 0 0]⟩), 1, 24) := by kernel_rfl
theorem pl213 : PlacesAt Try.prog 213 [(0, 1)] := ⟨_, Try.underlying213, by kernel_rfl⟩
theorem fa213_0 : FieldAt Try.prog 213 0 0 := fieldAt Try.underlying213 rfl rfl ts23 rfl
theorem tz214 : (Try.prog.info? 214).bind (·.zero) = some (.slice none 0 0) := by kernel_rfl
theorem ti214 : (Try.prog.info? 214).map (fun i => (i.zero, i.size, i.bytes)) = some (some (.slice none 0 0), 1, 24) := by kernel_rfl
theorem tz215 : (Try.prog.info? 215).bind (·.zero) = some (.agg ⟨[.slice none 0 0, .int .i64 0]⟩) := by kernel_rfl
theorem ti215 : (Try.prog.info? 215).map (fun i => (i.zero, i.size, i.bytes)) = some (some (.agg ⟨[.slice none 0 0, .int .i64 0]⟩), 2, 32) := by kernel_rfl
theorem pl215 : PlacesAt Try.prog 215 [(0, 1), (1, 1)] := ⟨_, Try.underlying215, by kernel_rfl⟩
theorem fa215_0 : FieldAt Try.prog 215 0 0 := fieldAt Try.underlying215 rfl rfl ts214 rfl
theorem fa215_1 : FieldAt Try.prog 215 1 1 := fieldAt Try.underlying215 rfl rfl ts3 rfl
theorem tz216 : (Try.prog.info? 216).bind (·.zero) = some (.agg ⟨[.slice none 0 0, .int .i64 0]⟩) := by kernel_rfl
theorem ti216 : (Try.prog.info? 216).map (fun i => (i.zero, i.size, i.bytes)) = some (some (.agg ⟨[.slice none 0 0, .int .i64 0]⟩), 2, 32) := by kernel_rfl
theorem pl216 : PlacesAt Try.prog 216 [(0, 1), (1, 1)] := ⟨_, Try.underlying216, by kernel_rfl⟩
theorem fa216_0 : FieldAt Try.prog 216 0 0 := fieldAt Try.underlying216 rfl rfl ts214 rfl
theorem fa216_1 : FieldAt Try.prog 216 1 1 := fieldAt Try.underlying216 rfl rfl ts3 rfl
theorem tz217 : (Try.prog.info? 217).bind (·.zero) = some (.agg ⟨[.int .i64 0, .int .i64 0, .string ⟨#[]⟩] ++ List.replicate 32 (.int .u8 0) ++ [.string ⟨#[]⟩] ++ List.replicate 32 (.int .u8 0) ++ List.replicate 32 (.int .u8 0)⟩) := by kernel_rfl
theorem ti217 : (Try.prog.info? 217).map (fun i => (i.zero, i.size, i.bytes)) = some (some (.agg ⟨[.int .i64 0, .int .i64 0, .string ⟨#[]⟩] ++ List.replicate 32 (.int .u8 0) ++ [.string ⟨#[]⟩] ++ List.replicate 32 (.int .u8 0) ++ List.replicate 32 (.int .u8 0)⟩), 100, 144) := by kernel_rfl
theorem pl217 : PlacesAt Try.prog 217 [(0, 1), (1, 1), (2, 1), (3, 32), (35, 1), (36, 32), (68, 32)] := ⟨_, Try.underlying217, by kernel_rfl⟩
theorem fa217_0 : FieldAt Try.prog 217 0 0 := fieldAt Try.underlying217 rfl rfl ts3 rfl
theorem fa217_1 : FieldAt Try.prog 217 1 1 := fieldAt Try.underlying217 rfl rfl ts3 rfl
theorem fa217_2 : FieldAt Try.prog 217 2 2 := fieldAt Try.underlying217 rfl rfl ts9 rfl
theorem fa217_3 : FieldAt Try.prog 217 3 3 := fieldAt Try.underlying217 rfl rfl ts113 rfl
theorem fa217_4 : FieldAt Try.prog 217 4 35 := fieldAt Try.underlying217 rfl rfl ts9 rfl
theorem fa217_5 : FieldAt Try.prog 217 5 36 := fieldAt Try.underlying217 rfl rfl ts113 rfl
theorem fa217_6 : FieldAt Try.prog 217 6 68 := fieldAt Try.underlying217 rfl rfl ts113 rfl
theorem tz218 : (Try.prog.info? 218).bind (·.zero) = some (.agg ⟨[.int .i64 0, .int .i64 0, .string ⟨#[]⟩] ++ List.replicate 32 (.int .u8 0) ++ [.string ⟨#[]⟩] ++ List.replicate 32 (.int .u8 0) ++ List.replicate 32 (.int .u8 0)⟩) := by kernel_rfl
theorem ti218 : (Try.prog.info? 218).map (fun i => (i.zero, i.size, i.bytes)) = some (some (.agg ⟨[.int .i64 0, .int .i64 0, .string ⟨#[]⟩] ++ List.replicate 32 (.int .u8 0) ++ [.string ⟨#[]⟩] ++ List.replicate 32 (.int .u8 0) ++ List.replicate 32 (.int .u8 0)⟩), 100, 144) := by kernel_rfl
theorem pl218 : PlacesAt Try.prog 218 [(0, 1), (1, 1), (2, 1), (3, 32), (35, 1), (36, 32), (68, 32)] := ⟨_, Try.underlying218, by kernel_rfl⟩
theorem fa218_0 : FieldAt Try.prog 218 0 0 := fieldAt Try.underlying218 rfl rfl ts3 rfl
theorem fa218_1 : FieldAt Try.prog 218 1 1 := fieldAt Try.underlying218 rfl rfl ts3 rfl
theorem fa218_2 : FieldAt Try.prog 218 2 2 := fieldAt Try.underlying218 rfl rfl ts9 rfl
theorem fa218_3 : FieldAt Try.prog 218 3 3 := fieldAt Try.underlying218 rfl rfl ts113 rfl
theorem fa218_4 : FieldAt Try.prog 218 4 35 := fieldAt Try.underlying218 rfl rfl ts9 rfl
theorem fa218_5 : FieldAt Try.prog 218 5 36 := fieldAt Try.underlying218 rfl rfl ts113 rfl
theorem fa218_6 : FieldAt Try.prog 218 6 68 := fieldAt Try.underlying218 rfl rfl ts113 rfl
theorem tz220 : (Try.prog.info? 220).bind (·.zero) = some (.slice none 0 0) := by kernel_rfl
theorem ti220 : (Try.prog.info? 220).map (fun i => (i.zero, i.size, i.bytes)) = some (some (.slice none 0 0), 1, 24) := by kernel_rfl
theorem tz221 : (Try.prog.info? 221).bind (·.zero) = some (.agg ⟨List.replicate 32 (.int .u8 0) ++ [.int .i64 0, .int .i64 0]⟩) := by kernel_rfl
theorem ti221 : (Try.prog.info? 221).map (fun i => (i.zero, i.size, i.bytes)) = some (some (.agg ⟨List.replicate 32 (.int .u8 0) ++ [.int .i64 0, .int .i64 0]⟩), 34, 48) := by kernel_rfl
theorem pl221 : PlacesAt Try.prog 221 [(0, 32), (32, 1), (33, 1)] := ⟨_, Try.underlying221, by kernel_rfl⟩
theorem fa221_0 : FieldAt Try.prog 221 0 0 := fieldAt Try.underlying221 rfl rfl ts113 rfl
theorem fa221_1 : FieldAt Try.prog 221 1 32 := fieldAt Try.underlying221 rfl rfl ts3 rfl
theorem fa221_2 : FieldAt Try.prog 221 2 33 := fieldAt Try.underlying221 rfl rfl ts3 rfl
theorem tz222 : (Try.prog.info? 222).bind (·.zero) = some (.agg ⟨List.replicate 32 (.int .u8 0) ++ [.int .i64 0, .int .i64 0]⟩) := by kernel_rfl
theorem ti222 : (Try.prog.info? 222).map (fun i => (i.zero, i.size, i.bytes)) = some (some (.agg ⟨List.replicate 32 (.int .u8 0) ++ [.int .i64 0, .int .i64 0]⟩), 34, 48) := by kernel_rfl
theorem pl222 : PlacesAt Try.prog 222 [(0, 32), (32, 1), (33, 1)] := ⟨_, Try.underlying222, by kernel_rfl⟩
theorem fa222_0 : FieldAt Try.prog 222 0 0 := fieldAt Try.underlying222 rfl rfl ts113 rfl
theorem fa222_1 : FieldAt Try.prog 222 1 32 := fieldAt Try.underlying222 rfl rfl ts3 rfl
theorem fa222_2 : FieldAt Try.prog 222 2 33 := fieldAt Try.underlying222 rfl rfl ts3 rfl
theorem mixed : Try.prog.follows .mixedOrders = true := by kernel_rfl
end Go.Proofs.Ytlfepdlbklmmlaa
