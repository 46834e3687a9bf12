/- Closed facts on the program's types. -/
import Derived.Test.YtblpmjbddpadcaaMore
import Derived.Test.YtblpmjbddpadcaaProg
namespace Go.Proofs.Ytblpmjbddpadcaa
open Go.Mo
theorem ts2 : (Try.prog.info? 2).map (·.size) = some 1 := by kernel_rfl
theorem ts3 : (Try.prog.info? 3).map (·.size) = some 1 := by kernel_rfl
theorem ts4 : (Try.prog.info? 4).map (·.size) = some 1 := by kernel_rfl
theorem ts5 : (Try.prog.info? 5).map (·.size) = some 1 := by kernel_rfl
theorem ts6 : (Try.prog.info? 6).map (·.size) = some 1 := by kernel_rfl
theorem ts7 : (Try.prog.info? 7).map (·.size) = some 4 := by kernel_rfl
theorem ts8 : (Try.prog.info? 8).map (·.size) = some 4 := by kernel_rfl
theorem ts9 : (Try.prog.info? 9).map (·.size) = some 1 := by kernel_rfl
theorem ts10 : (Try.prog.info? 10).map (·.size) = some 1 := by kernel_rfl
theorem ts11 : (Try.prog.info? 11).map (·.size) = some 1 := by kernel_rfl
theorem ts12 : (Try.prog.info? 12).map (·.size) = some 1 := by kernel_rfl
theorem ts13 : (Try.prog.info? 13).map (·.size) = some 2 := by kernel_rfl
theorem ts14 : (Try.prog.info? 14).map (·.size) = some 2 := by kernel_rfl
theorem ts15 : (Try.prog.info? 15).map (·.size) = some 1 := by kernel_rfl
theorem ts16 : (Try.prog.info? 16).map (·.size) = some 1 := by kernel_rfl
theorem ts17 : (Try.prog.info? 17).map (·.size) = some 1 := by kernel_rfl
theorem ts18 : (Try.prog.info? 18).map (·.size) = some 1 := by kernel_rfl
theorem ts19 : (Try.prog.info? 19).map (·.size) = some 1 := by kernel_rfl
theorem ts20 : (Try.prog.info? 20).map (·.size) = some 1 := by kernel_rfl
theorem ts21 : (Try.prog.info? 21).map (·.size) = some 1 := by kernel_rfl
theorem ts22 : (Try.prog.info? 22).map (·.size) = some 4 := by kernel_rfl
theorem ts23 : (Try.prog.info? 23).map (·.size) = some 4 := by kernel_rfl
theorem ts24 : (Try.prog.info? 24).map (·.size) = some 1 := by kernel_rfl
theorem ts27 : (Try.prog.info? 27).map (·.size) = some 14 := by kernel_rfl
theorem ts28 : (Try.prog.info? 28).map (·.size) = some 14 := by kernel_rfl
theorem ts29 : (Try.prog.info? 29).map (·.size) = some 1 := by kernel_rfl
theorem ts32 : (Try.prog.info? 32).map (·.size) = some 1 := by kernel_rfl
theorem ts39 : (Try.prog.info? 39).map (·.size) = some 1 := by kernel_rfl
theorem ts40 : (Try.prog.info? 40).map (·.size) = some 1 := by kernel_rfl
theorem ts42 : (Try.prog.info? 42).map (·.size) = some 1 := by kernel_rfl
theorem ts44 : (Try.prog.info? 44).map (·.size) = some 256 := by kernel_rfl
theorem ts50 : (Try.prog.info? 50).map (·.size) = some 1 := by kernel_rfl
theorem ts53 : (Try.prog.info? 53).map (·.size) = some 1 := by kernel_rfl
theorem ts56 : (Try.prog.info? 56).map (·.size) = some 1 := by kernel_rfl
theorem ts57 : (Try.prog.info? 57).map (·.size) = some 32 := by kernel_rfl
theorem ts58 : (Try.prog.info? 58).map (·.size) = some 100 := by kernel_rfl
theorem ts59 : (Try.prog.info? 59).map (·.size) = some 100 := by kernel_rfl
theorem ts82 : (Try.prog.info? 82).map (·.size) = some 39 := by kernel_rfl
theorem ts83 : (Try.prog.info? 83).map (·.size) = some 39 := by kernel_rfl
theorem ts84 : (Try.prog.info? 84).map (·.size) = some 1 := by kernel_rfl
theorem ts96 : (Try.prog.info? 96).map (·.size) = some 1 := by kernel_rfl
theorem ts97 : (Try.prog.info? 97).map (·.size) = some 1 := by kernel_rfl
theorem ts107 : (Try.prog.info? 107).map (·.size) = some 6 := by kernel_rfl
theorem ts108 : (Try.prog.info? 108).map (·.size) = some 6 := by kernel_rfl
theorem ts110 : (Try.prog.info? 110).map (·.size) = some 6 := by kernel_rfl
theorem ts117 : (Try.prog.info? 117).map (·.size) = some 1 := by kernel_rfl
theorem ts119 : (Try.prog.info? 119).map (·.size) = some 2 := by kernel_rfl
theorem ts120 : (Try.prog.info? 120).map (·.size) = some 2 := by kernel_rfl
theorem ts128 : (Try.prog.info? 128).map (·.size) = some 5 := by kernel_rfl
theorem ts129 : (Try.prog.info? 129).map (·.size) = some 5 := by kernel_rfl
theorem ts136 : (Try.prog.info? 136).map (·.size) = some 1 := by kernel_rfl
theorem ts139 : (Try.prog.info? 139).map (·.size) = some 1 := by kernel_rfl
theorem ts142 : (Try.prog.info? 142).map (·.size) = some 1 := by kernel_rfl
theorem ts144 : (Try.prog.info? 144).map (·.size) = some 1 := by kernel_rfl
theorem ts145 : (Try.prog.info? 145).map (·.size) = some 2 := by kernel_rfl
theorem ts146 : (Try.prog.info? 146).map (·.size) = some 2 := by kernel_rfl
theorem ts147 : (Try.prog.info? 147).map (·.size) = some 22 := by kernel_rfl
theorem ts148 : (Try.prog.info? 148).map (·.size) = some 22 := by kernel_rfl
theorem ts160 : (Try.prog.info? 160).map (·.size) = some 1 := by kernel_rfl
theorem ts164 : (Try.prog.info? 164).map (·.size) = some 1 := by kernel_rfl
theorem ts167 : (Try.prog.info? 167).map (·.size) = some 2 := by kernel_rfl
theorem ts172 : (Try.prog.info? 172).map (·.size) = some 1 := by kernel_rfl
theorem ts180 : (Try.prog.info? 180).map (·.size) = some 6 := by kernel_rfl
theorem ts188 : (Try.prog.info? 188).map (·.size) = some 2 := by kernel_rfl
theorem ts189 : (Try.prog.info? 189).map (·.size) = some 8 := by kernel_rfl
theorem ts190 : (Try.prog.info? 190).map (·.size) = some 35 := by kernel_rfl
theorem ts191 : (Try.prog.info? 191).map (·.size) = some 35 := by kernel_rfl
theorem ts192 : (Try.prog.info? 192).map (·.size) = some 1 := by kernel_rfl
theorem ts194 : (Try.prog.info? 194).map (·.size) = some 34 := by kernel_rfl
theorem ts195 : (Try.prog.info? 195).map (·.size) = some 34 := by kernel_rfl
theorem ts200 : (Try.prog.info? 200).map (·.size) = some 1 := by kernel_rfl
theorem ts201 : (Try.prog.info? 201).map (·.size) = some 1 := by kernel_rfl
theorem ts202 : (Try.prog.info? 202).map (·.size) = some 1 := by kernel_rfl
theorem ts203 : (Try.prog.info? 203).map (·.size) = some 2 := by kernel_rfl
theorem ts204 : (Try.prog.info? 204).map (·.size) = some 2 := by kernel_rfl
theorem ts205 : (Try.prog.info? 205).map (·.size) = some 1 := by kernel_rfl
theorem ts206 : (Try.prog.info? 206).map (·.size) = some 2 := by kernel_rfl
theorem ts207 : (Try.prog.info? 207).map (·.size) = some 2 := by kernel_rfl
theorem ts210 : (Try.prog.info? 210).map (·.size) = some 4 := by kernel_rfl
theorem ts212 : (Try.prog.info? 212).map (·.size) = some 1 := by kernel_rfl
theorem ts214 : (Try.prog.info? 214).map (·.size) = some 1 := by kernel_rfl
theorem ts216 : (Try.prog.info? 216).map (·.size) = some 8 := by kernel_rfl
theorem ts218 : (Try.prog.info? 218).map (·.size) = some 64 := by kernel_rfl
theorem ts220 : (Try.prog.info? 220).map (·.size) = some 1 := by kernel_rfl
theorem ts222 : (Try.prog.info? 222).map (·.size) = some 10 := by kernel_rfl
theorem ts223 : (Try.prog.info? 223).map (·.size) = some 10 := by kernel_rfl
theorem ts225 : (Try.prog.info? 225).map (·.size) = some 2 := by kernel_rfl
theorem ts226 : (Try.prog.info? 226).map (·.size) = some 2 := by kernel_rfl
theorem ts250 : (Try.prog.info? 250).map (·.size) = some 1 := by kernel_rfl
theorem ts261 : (Try.prog.info? 261).map (·.size) = some 1 := by kernel_rfl
theorem ts265 : (Try.prog.info? 265).map (·.size) = some 1 := by kernel_rfl
theorem ts268 : (Try.prog.info? 268).map (·.size) = some 1 := by kernel_rfl
theorem ts272 : (Try.prog.info? 272).map (·.size) = some 4 := by kernel_rfl
theorem ts273 : (Try.prog.info? 273).map (·.size) = some 4 := by kernel_rfl
theorem ts274 : (Try.prog.info? 274).map (·.size) = some 0 := by kernel_rfl
theorem ts275 : (Try.prog.info? 275).map (·.size) = some 0 := by kernel_rfl
theorem ts276 : (Try.prog.info? 276).map (·.size) = some 0 := by kernel_rfl
theorem ts278 : (Try.prog.info? 278).map (·.size) = some 1 := by kernel_rfl
theorem ts279 : (Try.prog.info? 279).map (·.size) = some 1 := by kernel_rfl
theorem ts281 : (Try.prog.info? 281).map (·.size) = some 1 := by kernel_rfl
theorem ts282 : (Try.prog.info? 282).map (·.size) = some 1 := by kernel_rfl
theorem ts283 : (Try.prog.info? 283).map (·.size) = some 1 := by kernel_rfl
theorem ts284 : (Try.prog.info? 284).map (·.size) = some 11 := by kernel_rfl
theorem ts285 : (Try.prog.info? 285).map (·.size) = some 11 := by kernel_rfl
theorem ts286 : (Try.prog.info? 286).map (·.size) = some 4 := by kernel_rfl
theorem ts287 : (Try.prog.info? 287).map (·.size) = some 4 := by kernel_rfl
theorem tz2 : (Try.prog.info? 2).bind (·.zero) = some (.int .i64 0) := by kernel_rfl
theorem ti2 : (Try.prog.info? 2).map (fun i => (i.zero, i.size, i.bytes)) = some (some (.int .i64 0), 1, 8) := by kernel_rfl
theorem tz3 : (Try.prog.info? 3).bind (·.zero) = some (.int .i64 0) := by kernel_rfl
theorem ti3 : (Try.prog.info? 3).map (fun i => (i.zero, i.size, i.bytes)) = some (some (.int .i64 0), 1, 8) := by kernel_rfl
theorem tz4 : (Try.prog.info? 4).bind (·.zero) = some (.bool false) := by kernel_rfl
theorem ti4 : (Try.prog.info? 4).map (fun i => (i.zero, i.size, i.bytes)) = some (some (.bool false), 1, 1) := by kernel_rfl
theorem tz5 : (Try.prog.info? 5).bind (·.zero) = some (.int .u8 0) := by kernel_rfl
theorem ti5 : (Try.prog.info? 5).map (fun i => (i.zero, i.size, i.bytes)) = some (some (.int .u8 0), 1, 1) := by kernel_rfl
theorem tz6 : (Try.prog.info? 6).bind (·.zero) = some (.int .u8 0) := by kernel_rfl
theorem ti6 : (Try.prog.info? 6).map (fun i => (i.zero, i.size, i.bytes)) = some (some (.int .u8 0), 1, 1) := by kernel_rfl
theorem tz7 : (Try.prog.info? 7).bind (·.zero) = some (.agg ⟨[.int .i64 0, .int .i64 0, .bool false, .int .u8 0]⟩) := by kernel_rfl
theorem ti7 : (Try.prog.info? 7).map (fun i => (i.zero, i.size, i.bytes)) = some (some (.agg ⟨[.int .i64 0, .int .i64 0, .bool false, .int .u8 0]⟩), 4, 24) := by kernel_rfl
theorem pl7 : PlacesAt Try.prog 7 [(0, 1), (1, 1), (2, 1), (3, 1)] := ⟨_, Try.underlying7, by kernel_rfl⟩
theorem fa7_0 : FieldAt Try.prog 7 0 0 := fieldAt Try.underlying7 rfl rfl ts2 rfl
theorem fa7_1 : FieldAt Try.prog 7 1 1 := fieldAt Try.underlying7 rfl rfl ts3 rfl
theorem fa7_2 : FieldAt Try.prog 7 2 2 := fieldAt Try.underlying7 rfl rfl ts4 rfl
theorem fa7_3 : FieldAt Try.prog 7 3 3 := fieldAt Try.underlying7 rfl rfl ts6 rfl
theorem tz8 : (Try.prog.info? 8).bind (·.zero) = some (.agg ⟨[.int .i64 0, .int .i64 0, .bool false, .int .u8 0]⟩) := by kernel_rfl
theorem ti8 : (Try.prog.info? 8).map (fun i => (i.zero, i.size, i.bytes)) = some (some (.agg ⟨[.int .i64 0, .int .i64 0, .bool false, .int .u8 0]⟩), 4, 24) := by kernel_rfl
theorem pl8 : PlacesAt Try.prog 8 [(0, 1), (1, 1), (2, 1), (3, 1)] := ⟨_, Try.underlying8, by kernel_rfl⟩
theorem fa8_0 : FieldAt Try.prog 8 0 0 := fieldAt Try.underlying8 rfl rfl ts2 rfl
theorem fa8_1 : FieldAt Try.prog 8 1 1 := fieldAt Try.underlying8 rfl rfl ts3 rfl
theorem fa8_2 : FieldAt Try.prog 8 2 2 := fieldAt Try.underlying8 rfl rfl ts4 rfl
theorem fa8_3 : FieldAt Try.prog 8 3 3 := fieldAt Try.underlying8 rfl rfl ts6 rfl
theorem tz9 : (Try.prog.info? 9).bind (·.zero) = some (.string ⟨#[]⟩) := by kernel_rfl
theorem ti9 : (Try.prog.info? 9).map (fun i => (i.zero, i.size, i.bytes)) = some (some (.string ⟨#[]⟩), 1, 16) := by kernel_rfl
theorem tz10 : (Try.prog.info? 10).bind (·.zero) = some (.string ⟨#[]⟩) := by kernel_rfl
theorem ti10 : (Try.prog.info? 10).map (fun i => (i.zero, i.size, i.bytes)) = some (some (.string ⟨#[]⟩), 1, 16) := by kernel_rfl
theorem tz11 : (Try.prog.info? 11).bind (·.zero) = some (.string ⟨#[]⟩) := by kernel_rfl
theorem ti11 : (Try.prog.info? 11).map (fun i => (i.zero, i.size, i.bytes)) = some (some (.string ⟨#[]⟩), 1, 16) := by kernel_rfl
theorem tz12 : (Try.prog.info? 12).bind (·.zero) = some (.int .u64 0) := by kernel_rfl
theorem ti12 : (Try.prog.info? 12).map (fun i => (i.zero, i.size, i.bytes)) = some (some (.int .u64 0), 1, 8) := by kernel_rfl
theorem tz13 : (Try.prog.info? 13).bind (·.zero) = some (.agg ⟨[.string ⟨#[]⟩, .int .u64 0]⟩) := by kernel_rfl
theorem ti13 : (Try.prog.info? 13).map (fun i => (i.zero, i.size, i.bytes)) = some (some (.agg ⟨[.string ⟨#[]⟩, .int .u64 0]⟩), 2, 24) := by kernel_rfl
theorem pl13 : PlacesAt Try.prog 13 [(0, 1), (1, 1)] := ⟨_, Try.underlying13, by kernel_rfl⟩
theorem fa13_0 : FieldAt Try.prog 13 0 0 := fieldAt Try.underlying13 rfl rfl ts9 rfl
theorem fa13_1 : FieldAt Try.prog 13 1 1 := fieldAt Try.underlying13 rfl rfl ts12 rfl
theorem tz14 : (Try.prog.info? 14).bind (·.zero) = some (.agg ⟨[.string ⟨#[]⟩, .int .u64 0]⟩) := by kernel_rfl
theorem ti14 : (Try.prog.info? 14).map (fun i => (i.zero, i.size, i.bytes)) = some (some (.agg ⟨[.string ⟨#[]⟩, .int .u64 0]⟩), 2, 24) := by kernel_rfl
theorem pl14 : PlacesAt Try.prog 14 [(0, 1), (1, 1)] := ⟨_, Try.underlying14, by kernel_rfl⟩
theorem fa14_0 : FieldAt Try.prog 14 0 0 := fieldAt Try.underlying14 rfl rfl ts9 rfl
theorem fa14_1 : FieldAt Try.prog 14 1 1 := fieldAt Try.underlying14 rfl rfl ts12 rfl
theorem tz15 : (Try.prog.info? 15).bind (·.zero) = some (.pointer none) := by kernel_rfl
theorem ti15 : (Try.prog.info? 15).map (fun i => (i.zero, i.size, i.bytes)) = some (some (.pointer none), 1, 8) := by kernel_rfl
theorem tz16 : (Try.prog.info? 16).bind (·.zero) = some (.pointer none) := by kernel_rfl
theorem ti16 : (Try.prog.info? 16).map (fun i => (i.zero, i.size, i.bytes)) = some (some (.pointer none), 1, 8) := by kernel_rfl
theorem tz17 : (Try.prog.info? 17).bind (·.zero) = some (.pointer none) := by kernel_rfl
theorem ti17 : (Try.prog.info? 17).map (fun i => (i.zero, i.size, i.bytes)) = some (some (.pointer none), 1, 8) := by kernel_rfl
theorem tz18 : (Try.prog.info? 18).bind (·.zero) = some (.agg ⟨[.pointer none]⟩) := by kernel_rfl
theorem ti18 : (Try.prog.info? 18).map (fun i => (i.zero, i.size, i.bytes)) = some (some (.agg ⟨[.pointer none]⟩), 1, 8) := by kernel_rfl
theorem pl18 : PlacesAt Try.prog 18 [(0, 1)] := ⟨_, Try.underlying18, by kernel_rfl⟩
theorem fa18_0 : FieldAt Try.prog 18 0 0 := fieldAt Try.underlying18 rfl rfl ts17 rfl
theorem tz19 : (Try.prog.info? 19).bind (·.zero) = some (.agg ⟨[.pointer none]⟩) := by kernel_rfl
theorem ti19 : (Try.prog.info? 19).map (fun i => (i.zero, i.size, i.bytes)) = some (some (.agg ⟨[.pointer none]⟩), 1, 8) := by kernel_rfl
theorem pl19 : PlacesAt Try.prog 19 [(0, 1)] := ⟨_, Try.underlying19, by kernel_rfl⟩
theorem fa19_0 : FieldAt Try.prog 19 0 0 := fieldAt Try.underlying19 rfl rfl ts17 rfl
theorem tz20 : (Try.prog.info? 20).bind (·.zero) = some (.nilIface) := by kernel_rfl
theorem ti20 : (Try.prog.info? 20).map (fun i => (i.zero, i.size, i.bytes)) = some (some (.nilIface), 1, 16) := by kernel_rfl
theorem tz21 : (Try.prog.info? 21).bind (·.zero) = some (.int .i32 0) := by kernel_rfl
theorem ti21 : (Try.prog.info? 21).map (fun i => (i.zero, i.size, i.bytes)) = some (some (.int .i32 0), 1, 4) := by kernel_rfl
theorem tz22 : (Try.prog.info? 22).bind (·.zero) = some (.agg ⟨[.int .i64 0, .int .i64 0, .int .i64 0, .int .i64 0]⟩) := by kernel_rfl
theorem ti22 : (Try.prog.info? 22).map (fun i => (i.zero, i.size, i.bytes)) = some (some (.agg ⟨[.int .i64 0, .int .i64 0, .int .i64 0, .int .i64 0]⟩), 4, 32) := by kernel_rfl
theorem pl22 : PlacesAt Try.prog 22 [(0, 1), (1, 1), (2, 1), (3, 1)] := ⟨_, Try.underlying22, by kernel_rfl⟩
theorem ia22 : IntsAt Try.prog 22 [.i64, .i64, .i64, .i64] := intsAt_of (by kernel_rfl)
theorem fa22_0 : FieldAt Try.prog 22 0 0 := fieldAt Try.underlying22 rfl rfl ts3 rfl
theorem fa22_1 : FieldAt Try.prog 22 1 1 := fieldAt Try.underlying22 rfl rfl ts3 rfl
theorem fa22_2 : FieldAt Try.prog 22 2 2 := fieldAt Try.underlying22 rfl rfl ts3 rfl
theorem fa22_3 : FieldAt Try.prog 22 3 3 := fieldAt Try.underlying22 rfl rfl ts3 rfl
theorem tz23 : (Try.prog.info? 23).bind (·.zero) = some (.agg ⟨[.int .i64 0, .int .i64 0, .int .i64 0, .int .i64 0]⟩) := by kernel_rfl
theorem ti23 : (Try.prog.info? 23).map (fun i => (i.zero, i.size, i.bytes)) = some (some (.agg ⟨[.int .i64 0, .int .i64 0, .int .i64 0, .int .i64 0]⟩), 4, 32) := by kernel_rfl
theorem pl23 : PlacesAt Try.prog 23 [(0, 1), (1, 1), (2, 1), (3, 1)] := ⟨_, Try.underlying23, by kernel_rfl⟩
theorem ia23 : IntsAt Try.prog 23 [.i64, .i64, .i64, .i64] := intsAt_of (by kernel_rfl)
theorem fa23_0 : FieldAt Try.prog 23 0 0 := fieldAt Try.underlying23 rfl rfl ts3 rfl
theorem fa23_1 : FieldAt Try.prog 23 1 1 := fieldAt Try.underlying23 rfl rfl ts3 rfl
theorem fa23_2 : FieldAt Try.prog 23 2 2 := fieldAt Try.underlying23 rfl rfl ts3 rfl
theorem fa23_3 : FieldAt Try.prog 23 3 3 := fieldAt Try.underlying23 rfl rfl ts3 rfl
theorem tz24 : (Try.prog.info? 24).bind (·.zero) = some (.slice none 0 0) := by kernel_rfl
theorem ti24 : (Try.prog.info? 24).map (fun i => (i.zero, i.size, i.bytes)) = some (some (.slice none 0 0), 1, 24) := by kernel_rfl
theorem tz27 : (Try.prog.info? 27).bind (·.zero) = some (.agg ⟨[.int .i64 0, .int .i64 0, .int .i64 0, .int .i64 0, .int .i64 0, .int .i64 0, .int .i64 0, .int .i64 0, .int .i64 0, .int .i64 0, .int .i64 0, .int .i64 0, .int .i64 0, .int .i64 0]⟩) := by kernel_rfl
theorem ti27 : (Try.prog.info? 27).map (fun i => (i.zero, i.size, i.bytes)) = some (some (.agg ⟨[.int .i64 0, .int .i64 0, .int .i64 0, .int .i64 0, .int .i64 0, .int .i64 0, .int .i64 0, .int .i64 0, .int .i64 0, .int .i64 0, .int .i64 0, .int .i64 0, .int .i64 0, .int .i64 0]⟩), 14, 112) := by kernel_rfl
theorem pl27 : PlacesAt Try.prog 27 [(0, 4), (4, 1), (5, 1), (6, 1), (7, 1), (8, 1), (9, 1), (10, 1), (11, 1), (12, 1), (13, 1)] := ⟨_, Try.underlying27, by kernel_rfl⟩
theorem fa27_0 : FieldAt Try.prog 27 0 0 := fieldAt Try.underlying27 rfl rfl ts23 rfl
theorem fa27_1 : FieldAt Try.prog 27 1 4 := fieldAt Try.underlying27 rfl rfl ts3 rfl
theorem fa27_2 : FieldAt Try.prog 27 2 5 := fieldAt Try.underlying27 rfl rfl ts3 rfl
theorem fa27_3 : FieldAt Try.prog 27 3 6 := fieldAt Try.underlying27 rfl rfl ts3 rfl
theorem fa27_4 : FieldAt Try.prog 27 4 7 := fieldAt Try.underlying27 rfl rfl ts3 rfl
theorem fa27_5 : FieldAt Try.prog 27 5 8 := fieldAt Try.underlying27 rfl rfl ts3 rfl
theorem fa27_6 : FieldAt Try.prog 27 6 9 := fieldAt Try.underlying27 rfl rfl ts3 rfl
theorem fa27_7 : FieldAt Try.prog 27 7 10 := fieldAt Try.underlying27 rfl rfl ts3 rfl
theorem fa27_8 : FieldAt Try.prog 27 8 11 := fieldAt Try.underlying27 rfl rfl ts3 rfl
theorem fa27_9 : FieldAt Try.prog 27 9 12 := fieldAt Try.underlying27 rfl rfl ts3 rfl
theorem fa27_10 : FieldAt Try.prog 27 10 13 := fieldAt Try.underlying27 rfl rfl ts3 rfl
theorem tz28 : (Try.prog.info? 28).bind (·.zero) = some (.agg ⟨[.int .i64 0, .int .i64 0, .int .i64 0, .int .i64 0, .int .i64 0, .int .i64 0, .int .i64 0, .int .i64 0, .int .i64 0, .int .i64 0, .int .i64 0, .int .i64 0, .int .i64 0, .int .i64 0]⟩) := by kernel_rfl
theorem ti28 : (Try.prog.info? 28).map (fun i => (i.zero, i.size, i.bytes)) = some (some (.agg ⟨[.int .i64 0, .int .i64 0, .int .i64 0, .int .i64 0, .int .i64 0, .int .i64 0, .int .i64 0, .int .i64 0, .int .i64 0, .int .i64 0, .int .i64 0, .int .i64 0, .int .i64 0, .int .i64 0]⟩), 14, 112) := by kernel_rfl
theorem pl28 : PlacesAt Try.prog 28 [(0, 4), (4, 1), (5, 1), (6, 1), (7, 1), (8, 1), (9, 1), (10, 1), (11, 1), (12, 1), (13, 1)] := ⟨_, Try.underlying28, by kernel_rfl⟩
theorem fa28_0 : FieldAt Try.prog 28 0 0 := fieldAt Try.underlying28 rfl rfl ts23 rfl
theorem fa28_1 : FieldAt Try.prog 28 1 4 := fieldAt Try.underlying28 rfl rfl ts3 rfl
theorem fa28_2 : FieldAt Try.prog 28 2 5 := fieldAt Try.underlying28 rfl rfl ts3 rfl
theorem fa28_3 : FieldAt Try.prog 28 3 6 := fieldAt Try.underlying28 rfl rfl ts3 rfl
theorem fa28_4 : FieldAt Try.prog 28 4 7 := fieldAt Try.underlying28 rfl rfl ts3 rfl
theorem fa28_5 : FieldAt Try.prog 28 5 8 := fieldAt Try.underlying28 rfl rfl ts3 rfl
theorem fa28_6 : FieldAt Try.prog 28 6 9 := fieldAt Try.underlying28 rfl rfl ts3 rfl
theorem fa28_7 : FieldAt Try.prog 28 7 10 := fieldAt Try.underlying28 rfl rfl ts3 rfl
theorem fa28_8 : FieldAt Try.prog 28 8 11 := fieldAt Try.underlying28 rfl rfl ts3 rfl
theorem fa28_9 : FieldAt Try.prog 28 9 12 := fieldAt Try.underlying28 rfl rfl ts3 rfl
theorem fa28_10 : FieldAt Try.prog 28 10 13 := fieldAt Try.underlying28 rfl rfl ts3 rfl
theorem tz29 : (Try.prog.info? 29).bind (·.zero) = some (.int .i64 0) := by kernel_rfl
theorem ti29 : (Try.prog.info? 29).map (fun i => (i.zero, i.size, i.bytes)) = some (some (.int .i64 0), 1, 8) := by kernel_rfl
theorem tz32 : (Try.prog.info? 32).bind (·.zero) = some (.slice none 0 0) := by kernel_rfl
theorem ti32 : (Try.prog.info? 32).map (fun i => (i.zero, i.size, i.bytes)) = some (some (.slice none 0 0), 1, 24) := by kernel_rfl
theorem tz39 : (Try.prog.info? 39).bind (·.zero) = some (.slice none 0 0) := by kernel_rfl
theorem ti39 : (Try.prog.info? 39).map (fun i => (i.zero, i.size, i.bytes)) = some (some (.slice none 0 0), 1, 24) := by kernel_rfl
theorem tz40 : (Try.prog.info? 40).bind (·.zero) = some (.slice none 0 0) := by kernel_rfl
theorem ti40 : (Try.prog.info? 40).map (fun i => (i.zero, i.size, i.bytes)) = some (some (.slice none 0 0), 1, 24) := by kernel_rfl
theorem tz42 : (Try.prog.info? 42).bind (·.zero) = some (.map none) := by kernel_rfl
theorem ti42 : (Try.prog.info? 42).map (fun i => (i.zero, i.size, i.bytes)) = some (some (.map none), 1, 8) := by kernel_rfl
theorem tz44 : (Try.prog.info? 44).bind (·.zero) = some (.agg ⟨List.replicate 256 (.int .u8 0)⟩) := by kernel_rfl
theorem ti44 : (Try.prog.info? 44).map (fun i => (i.zero, i.size, i.bytes)) = some (some (.agg ⟨List.replicate 256 (.int .u8 0)⟩), 256, 256) := by kernel_rfl
theorem tz50 : (Try.prog.info? 50).bind (·.zero) = some (.pointer none) := by kernel_rfl
theorem ti50 : (Try.prog.info? 50).map (fun i => (i.zero, i.size, i.bytes)) = some (some (.pointer none), 1, 8) := by kernel_rfl
theorem tz53 : (Try.prog.info? 53).bind (·.zero) = some (.slice none 0 0) := by kernel_rfl
theorem ti53 : (Try.prog.info? 53).map (fun i => (i.zero, i.size, i.bytes)) = some (some (.slice none 0 0), 1, 24) := by kernel_rfl
theorem tz56 : (Try.prog.info? 56).bind (·.zero) = some (.slice none 0 0) := by kernel_rfl
theorem ti56 : (Try.prog.info? 56).map (fun i => (i.zero, i.size, i.bytes)) = some (some (.slice none 0 0), 1, 24) := by kernel_rfl
theorem tz57 : (Try.prog.info? 57).bind (·.zero) = some (.agg ⟨List.replicate 32 (.int .u8 0)⟩) := by kernel_rfl
theorem ti57 : (Try.prog.info? 57).map (fun i => (i.zero, i.size, i.bytes)) = some (some (.agg ⟨List.replicate 32 (.int .u8 0)⟩), 32, 32) := by kernel_rfl
theorem tz58 : (Try.prog.info? 58).bind (·.zero) = some (.agg ⟨[.int .i64 0, .int .i64 0, .string ⟨#[]⟩] ++ List.replicate 32 (.int .u8 0) ++ [.string ⟨#[]⟩] ++ List.replicate 32 (.int .u8 0) ++ List.replicate 32 (.int .u8 0)⟩) := by kernel_rfl
theorem ti58 : (Try.prog.info? 58).map (fun i => (i.zero, i.size, i.bytes)) = some (some (.agg ⟨[.int .i64 0, .int .i64 0, .string ⟨#[]⟩] ++ List.replicate 32 (.int .u8 0) ++ [.string ⟨#[]⟩] ++ List.replicate 32 (.int .u8 0) ++ List.replicate 32 (.int .u8 0)⟩), 100, 144) := by kernel_rfl
theorem pl58 : PlacesAt Try.prog 58 [(0, 1), (1, 1), (2, 1), (3, 32), (35, 1), (36, 32), (68, 32)] := ⟨_, Try.underlying58, by kernel_rfl⟩
theorem fa58_0 : FieldAt Try.prog 58 0 0 := fieldAt Try.underlying58 rfl rfl ts3 rfl
theorem fa58_1 : FieldAt Try.prog 58 1 1 := fieldAt Try.underlying58 rfl rfl ts3 rfl
theorem fa58_2 : FieldAt Try.prog 58 2 2 := fieldAt Try.underlying58 rfl rfl ts9 rfl
theorem fa58_3 : FieldAt Try.prog 58 3 3 := fieldAt Try.underlying58 rfl rfl ts57 rfl
theorem fa58_4 : FieldAt Try.prog 58 4 35 := fieldAt Try.underlying58 rfl rfl ts9 rfl
theorem fa58_5 : FieldAt Try.prog 58 5 36 := fieldAt Try.underlying58 rfl rfl ts57 rfl
theorem fa58_6 : FieldAt Try.prog 58 6 68 := fieldAt Try.underlying58 rfl rfl ts57 rfl
theorem tz59 : (Try.prog.info? 59).bind (·.zero) = some (.agg ⟨[.int .i64 0, .int .i64 0, .string ⟨#[]⟩] ++ List.replicate 32 (.int .u8 0) ++ [.string ⟨#[]⟩] ++ List.replicate 32 (.int .u8 0) ++ List.replicate 32 (.int .u8 0)⟩) := by kernel_rfl
theorem ti59 : (Try.prog.info? 59).map (fun i => (i.zero, i.size, i.bytes)) = some (some (.agg ⟨[.int .i64 0, .int .i64 0, .string ⟨#[]⟩] ++ List.replicate 32 (.int .u8 0) ++ [.string ⟨#[]⟩] ++ List.replicate 32 (.int .u8 0) ++ List.replicate 32 (.int .u8 0)⟩), 100, 144) := by kernel_rfl
theorem pl59 : PlacesAt Try.prog 59 [(0, 1), (1, 1), (2, 1), (3, 32), (35, 1), (36, 32), (68, 32)] := ⟨_, Try.underlying59, by kernel_rfl⟩
theorem fa59_0 : FieldAt Try.prog 59 0 0 := fieldAt Try.underlying59 rfl rfl ts3 rfl
theorem fa59_1 : FieldAt Try.prog 59 1 1 := fieldAt Try.underlying59 rfl rfl ts3 rfl
theorem fa59_2 : FieldAt Try.prog 59 2 2 := fieldAt Try.underlying59 rfl rfl ts9 rfl
theorem fa59_3 : FieldAt Try.prog 59 3 3 := fieldAt Try.underlying59 rfl rfl ts57 rfl
theorem fa59_4 : FieldAt Try.prog 59 4 35 := fieldAt Try.underlying59 rfl rfl ts9 rfl
theorem fa59_5 : FieldAt Try.prog 59 5 36 := fieldAt Try.underlying59 rfl rfl ts57 rfl
theorem fa59_6 : FieldAt Try.prog 59 6 68 := fieldAt Try.underlying59 rfl rfl ts57 rfl
theorem tz82 : (Try.prog.info? 82).bind (·.zero) = some (.agg ⟨List.replicate 32 (.int .u8 0) ++ [.int .i64 0, .int .i64 0, .bool false, .int .i64 0, .slice none 0 0, .string ⟨#[]⟩, .slice none 0 0]⟩) := by kernel_rfl
theorem ti82 : (Try.prog.info? 82).map (fun i => (i.zero, i.size, i.bytes)) = some (some (.agg ⟨List.replicate 32 (.int .u8 0) ++ [.int .i64 0, .int .i64 0, .bool false, .int .i64 0, .slice none 0 0, .string ⟨#[]⟩, .slice none 0 0]⟩), 39, 128) := by kernel_rfl
theorem pl82 : PlacesAt Try.prog 82 [(0, 32), (32, 1), (33, 1), (34, 1), (35, 1), (36, 1), (37, 1), (38, 1)] := ⟨_, Try.underlying82, by kernel_rfl⟩
theorem fa82_0 : FieldAt Try.prog 82 0 0 := fieldAt Try.underlying82 rfl rfl ts57 rfl
theorem fa82_1 : FieldAt Try.prog 82 1 32 := fieldAt Try.underlying82 rfl rfl ts3 rfl
theorem fa82_2 : FieldAt Try.prog 82 2 33 := fieldAt Try.underlying82 rfl rfl ts3 rfl
theorem fa82_3 : FieldAt Try.prog 82 3 34 := fieldAt Try.underlying82 rfl rfl ts4 rfl
theorem fa82_4 : FieldAt Try.prog 82 4 35 := fieldAt Try.underlying82 rfl rfl ts3 rfl
theorem fa82_5 : FieldAt Try.prog 82 5 36 := fieldAt Try.underlying82 rfl rfl ts40 rfl
theorem fa82_6 : FieldAt Try.prog 82 6 37 := fieldAt Try.underlying82 rfl rfl ts9 rfl
theorem fa82_7 : FieldAt Try.prog 82 7 38 := fieldAt Try.underlying82 rfl rfl ts32 rfl
theorem tz83 : (Try.prog.info? 83).bind (·.zero) = some (.agg ⟨List.replicate 32 (.int .u8 0) ++ [.int .i64 0, .int .i64 0, .bool false, .int .i64 0, .slice none 0 0, .string ⟨#[]⟩, .slice none 0 0]⟩) := by kernel_rfl
theorem ti83 : (Try.prog.info? 83).map (fun i => (i.zero, i.size, i.bytes)) = some (some (.agg ⟨List.replicate 32 (.int .u8 0) ++ [.int .i64 0, .int .i64 0, .bool false, .int .i64 0, .slice none 0 0, .string ⟨#[]⟩, .slice none 0 0]⟩), 39, 128) := by kernel_rfl
theorem pl83 : PlacesAt Try.prog 83 [(0, 32), (32, 1), (33, 1), (34, 1), (35, 1), (36, 1), (37, 1), (38, 1)] := ⟨_, Try.underlying83, by kernel_rfl⟩
theorem fa83_0 : FieldAt Try.prog 83 0 0 := fieldAt Try.underlying83 rfl rfl ts57 rfl
theorem fa83_1 : FieldAt Try.prog 83 1 32 := fieldAt Try.underlying83 rfl rfl ts3 rfl
theorem fa83_2 : FieldAt Try.prog 83 2 33 := fieldAt Try.underlying83 rfl rfl ts3 rfl
theorem fa83_3 : FieldAt Try.prog 83 3 34 := fieldAt Try.underlying83 rfl rfl ts4 rfl
theorem fa83_4 : FieldAt Try.prog 83 4 35 := fieldAt Try.underlying83 rfl rfl ts3 rfl
theorem fa83_5 : FieldAt Try.prog 83 5 36 := fieldAt Try.underlying83 rfl rfl ts40 rfl
theorem fa83_6 : FieldAt Try.prog 83 6 37 := fieldAt Try.underlying83 rfl rfl ts9 rfl
theorem fa83_7 : FieldAt Try.prog 83 7 38 := fieldAt Try.underlying83 rfl rfl ts32 rfl
theorem tz84 : (Try.prog.info? 84).bind (·.zero) = some (.slice none 0 0) := by kernel_rfl
theorem ti84 : (Try.prog.info? 84).map (fun i => (i.zero, i.size, i.bytes)) = some (some (.slice none 0 0), 1, 24) := by kernel_rfl
theorem tz96 : (Try.prog.info? 96).bind (·.zero) = some (.slice none 0 0) := by kernel_rfl
theorem ti96 : (Try.prog.info? 96).map (fun i => (i.zero, i.size, i.bytes)) = some (some (.slice none 0 0), 1, 24) := by kernel_rfl
theorem tz97 : (Try.prog.info? 97).bind (·.zero) = some (.map none) := by kernel_rfl
theorem ti97 : (Try.prog.info? 97).map (fun i => (i.zero, i.size, i.bytes)) = some (some (.map none), 1, 8) := by kernel_rfl
theorem tz107 : (Try.prog.info? 107).bind (·.zero) = some (.agg ⟨[.slice none 0 0, .bool false, .int .i64 0, .bool false, .string ⟨#[]⟩, .string ⟨#[]⟩]⟩) := by kernel_rfl
theorem ti107 : (Try.prog.info? 107).map (fun i => (i.zero, i.size, i.bytes)) = some (some (.agg ⟨[.slice none 0 0, .bool false, .int .i64 0, .bool false, .string ⟨#[]⟩, .string ⟨#[]⟩]⟩), 6, 80) := by kernel_rfl
theorem pl107 : PlacesAt Try.prog 107 [(0, 1), (1, 1), (2, 1), (3, 1), (4, 1), (5, 1)] := ⟨_, Try.underlying107, by kernel_rfl⟩
theorem fa107_0 : FieldAt Try.prog 107 0 0 := fieldAt Try.underlying107 rfl rfl ts40 rfl
theorem fa107_1 : FieldAt Try.prog 107 1 1 := fieldAt Try.underlying107 rfl rfl ts4 rfl
theorem fa107_2 : FieldAt Try.prog 107 2 2 := fieldAt Try.underlying107 rfl rfl ts3 rfl
theorem fa107_3 : FieldAt Try.prog 107 3 3 := fieldAt Try.underlying107 rfl rfl ts4 rfl
theorem fa107_4 : FieldAt Try.prog 107 4 4 := fieldAt Try.underlying107 rfl rfl ts9 rfl
theorem fa107_5 : FieldAt Try.prog 107 5 5 := fieldAt Try.underlying107 rfl rfl ts9 rfl
theorem tz108 : (Try.prog.info? 108).bind (·.zero) = some (.agg ⟨[.slice none 0 0, .bool false, .int .i64 0, .bool false, .string ⟨#[]⟩, .string ⟨#[]⟩]⟩) := by kernel_rfl
theorem ti108 : (Try.prog.info? 108).map (fun i => (i.zero, i.size, i.bytes)) = some (some (.agg ⟨[.slice none 0 0, .bool false, .int .i64 0, .bool false, .string ⟨#[]⟩, .string ⟨#[]⟩]⟩), 6, 80) := by kernel_rfl
theorem pl108 : PlacesAt Try.prog 108 [(0, 1), (1, 1), (2, 1), (3, 1), (4, 1), (5, 1)] := ⟨_, Try.underlying108, by kernel_rfl⟩
theorem fa108_0 : FieldAt Try.prog 108 0 0 := fieldAt Try.underlying108 rfl rfl ts40 rfl
theorem fa108_1 : FieldAt Try.prog 108 1 1 := fieldAt Try.underlying108 rfl rfl ts4 rfl
theorem fa108_2 : FieldAt Try.prog 108 2 2 := fieldAt Try.underlying108 rfl rfl ts3 rfl
theorem fa108_3 : FieldAt Try.prog 108 3 3 := fieldAt Try.underlying108 rfl rfl ts4 rfl
theorem fa108_4 : FieldAt Try.prog 108 4 4 := fieldAt Try.underlying108 rfl rfl ts9 rfl
theorem fa108_5 : FieldAt Try.prog 108 5 5 := fieldAt Try.underlying108 rfl rfl ts9 rfl
theorem tz110 : (Try.prog.info? 110).bind (·.zero) = some (.agg ⟨[.slice none 0 0, .bool false, .int .i64 0, .bool false, .string ⟨#[]⟩, .string ⟨#[]⟩]⟩) := by kernel_rfl
theorem ti110 : (Try.prog.info? 110).map (fun i => (i.zero, i.size, i.bytes)) = some (some (.agg ⟨[.slice none 0 0, .bool false, .int .i64 0, .bool false, .string ⟨#[]⟩, .string ⟨#[]⟩]⟩), 6, 80) := by kernel_rfl
theorem pl110 : PlacesAt Try.prog 110 [(0, 1), (1, 1), (2, 1), (3, 1), (4, 1), (5, 1)] := ⟨_, Try.underlying110, by kernel_rfl⟩
theorem fa110_0 : FieldAt Try.prog 110 0 0 := fieldAt Try.underlying110 rfl rfl ts40 rfl
theorem fa110_1 : FieldAt Try.prog 110 1 1 := fieldAt Try.underlying110 rfl rfl ts4 rfl
theorem fa110_2 : FieldAt Try.prog 110 2 2 := fieldAt Try.underlying110 rfl rfl ts3 rfl
theorem fa110_3 : FieldAt Try.prog 110 3 3 := fieldAt Try.underlying110 rfl rfl ts4 rfl
theorem fa110_4 : FieldAt Try.prog 110 4 4 := fieldAt Try.underlying110 rfl rfl ts9 rfl
theorem fa110_5 : FieldAt Try.prog 110 5 5 := fieldAt Try.underlying110 rfl rfl ts9 rfl
theorem tz117 : (Try.prog.info? 117).bind (·.zero) = some (.slice none 0 0) := by kernel_rfl
theorem ti117 : (Try.prog.info? 117).map (fun i => (i.zero, i.size, i.bytes)) = some (some (.slice none 0 0), 1, 24) := by kernel_rfl
theorem tz119 : (Try.prog.info? 119).bind (·.zero) = some (.agg ⟨[.int .i64 0, .int .i64 0]⟩) := by kernel_rfl
theorem ti119 : (Try.prog.info? 119).map (fun i => (i.zero, i.size, i.bytes)) = some (some (.agg ⟨[.int .i64 0, .int .i64 0]⟩), 2, 16) := by kernel_rfl
theorem pl119 : PlacesAt Try.prog 119 [(0, 1), (1, 1)] := ⟨_, Try.underlying119, by kernel_rfl⟩
theorem ia119 : IntsAt Try.prog 119 [.i64, .i64] := intsAt_of (by kernel_rfl)
theorem fa119_0 : FieldAt Try.prog 119 0 0 := fieldAt Try.underlying119 rfl rfl ts3 rfl
theorem fa119_1 : FieldAt Try.prog 119 1 1 := fieldAt Try.underlying119 rfl rfl ts3 rfl
theorem tz120 : (Try.prog.info? 120).bind (·.zero) = some (.agg ⟨[.int .i64 0, .int .i64 0]⟩) := by kernel_rfl
theorem ti120 : (Try.prog.info? 120).map (fun i => (i.zero, i.size, i.bytes)) = some (some (.agg ⟨[.int .i64 0, .int .i64 0]⟩), 2, 16) := by kernel_rfl
theorem pl120 : PlacesAt Try.prog 120 [(0, 1), (1, 1)] := ⟨_, Try.underlying120, by kernel_rfl⟩
theorem ia120 : IntsAt Try.prog 120 [.i64, .i64] := intsAt_of (by kernel_rfl)
theorem fa120_0 : FieldAt Try.prog 120 0 0 := fieldAt Try.underlying120 rfl rfl ts3 rfl
theorem fa120_1 : FieldAt Try.prog 120 1 1 := fieldAt Try.underlying120 rfl rfl ts3 rfl
theorem tz128 : (Try.prog.info? 128).bind (·.zero) = some (.agg ⟨[.int .i64 0, .int .i64 0, .int .i64 0, .int .i64 0, .int .i64 0]⟩) := by kernel_rfl
theorem ti128 : (Try.prog.info? 128).map (fun i => (i.zero, i.size, i.bytes)) = some (some (.agg ⟨[.int .i64 0, .int .i64 0, .int .i64 0, .int .i64 0, .int .i64 0]⟩), 5, 40) := by kernel_rfl
theorem pl128 : PlacesAt Try.prog 128 [(0, 1), (1, 1), (2, 1), (3, 1), (4, 1)] := ⟨_, Try.underlying128, by kernel_rfl⟩
theorem ia128 : IntsAt Try.prog 128 [.i64, .i64, .i64, .i64, .i64] := intsAt_of (by kernel_rfl)
theorem fa128_0 : FieldAt Try.prog 128 0 0 := fieldAt Try.underlying128 rfl rfl ts3 rfl
theorem fa128_1 : FieldAt Try.prog 128 1 1 := fieldAt Try.underlying128 rfl rfl ts3 rfl
theorem fa128_2 : FieldAt Try.prog 128 2 2 := fieldAt Try.underlying128 rfl rfl ts3 rfl
theorem fa128_3 : FieldAt Try.prog 128 3 3 := fieldAt Try.underlying128 rfl rfl ts3 rfl
theorem fa128_4 : FieldAt Try.prog 128 4 4 := fieldAt Try.underlying128 rfl rfl ts3 rfl
theorem tz129 : (Try.prog.info? 129).bind (·.zero) = some (.agg ⟨[.int .i64 0, .int .i64 0, .int .i64 0, .int .i64 0, .int .i64 0]⟩) := by kernel_rfl
theorem ti129 : (Try.prog.info? 129).map (fun i => (i.zero, i.size, i.bytes)) = some (some (.agg ⟨[.int .i64 0, .int .i64 0, .int .i64 0, .int .i64 0, .int .i64 0]⟩), 5, 40) := by kernel_rfl
theorem pl129 : PlacesAt Try.prog 129 [(0, 1), (1, 1), (2, 1), (3, 1), (4, 1)] := ⟨_, Try.underlying129, by kernel_rfl⟩
theorem ia129 : IntsAt Try.prog 129 [.i64, .i64, .i64, .i64, .i64] := intsAt_of (by kernel_rfl)
theorem fa129_0 : FieldAt Try.prog 129 0 0 := fieldAt Try.underlying129 rfl rfl ts3 rfl
theorem fa129_1 : FieldAt Try.prog 129 1 1 := fieldAt Try.underlying129 rfl rfl ts3 rfl
theorem fa129_2 : FieldAt Try.prog 129 2 2 := fieldAt Try.underlying129 rfl rfl ts3 rfl
theorem fa129_3 : FieldAt Try.prog 129 3 3 := fieldAt Try.underlying129 rfl rfl ts3 rfl
theorem fa129_4 : FieldAt Try.prog 129 4 4 := fieldAt Try.underlying129 rfl rfl ts3 rfl
theorem tz136 : (Try.prog.info? 136).bind (·.zero) = some (.pointer none) := by kernel_rfl
theorem ti136 : (Try.prog.info? 136).map (fun i => (i.zero, i.size, i.bytes)) = some (some (.pointer none), 1, 8) := by kernel_rfl
theorem tz139 : (Try.prog.info? 139).bind (·.zero) = some (.pointer none) := by kernel_rfl
theorem ti139 : (Try.prog.info? 139).map (fun i => (i.zero, i.size, i.bytes)) = some (some (.pointer none), 1, 8) := by kernel_rfl
theorem tz142 : (Try.prog.info? 142).bind (·.zero) = some (.pointer none) := by kernel_rfl
theorem ti142 : (Try.prog.info? 142).map (fun i => (i.zero, i.size, i.bytes)) = some (some (.pointer none), 1, 8) := by kernel_rfl
theorem tz144 : (Try.prog.info? 144).bind (·.zero) = some (.slice none 0 0) := by kernel_rfl
theorem ti144 : (Try.prog.info? 144).map (fun i => (i.zero, i.size, i.bytes)) = some (some (.slice none 0 0), 1, 24) := by kernel_rfl
theorem tz145 : (Try.prog.info? 145).bind (·.zero) = some (.agg ⟨[.int .i64 0, .int .i64 0]⟩) := by kernel_rfl
theorem ti145 : (Try.prog.info? 145).map (fun i => (i.zero, i.size, i.bytes)) = some (some (.agg ⟨[.int .i64 0, .int .i64 0]⟩), 2, 16) := by kernel_rfl
theorem pl145 : PlacesAt Try.prog 145 [(0, 1), (1, 1)] := ⟨_, Try.underlying145, by kernel_rfl⟩
theorem ia145 : IntsAt Try.prog 145 [.i64, .i64] := intsAt_of (by kernel_rfl)
theorem fa145_0 : FieldAt Try.prog 145 0 0 := fieldAt Try.underlying145 rfl rfl ts3 rfl
theorem fa145_1 : FieldAt Try.prog 145 1 1 := fieldAt Try.underlying145 rfl rfl ts3 rfl
theorem tz146 : (Try.prog.info? 146).bind (·.zero) = some (.agg ⟨[.int .i64 0, .int .i64 0]⟩) := by kernel_rfl
theorem ti146 : (Try.prog.info? 146).map (fun i => (i.zero, i.size, i.bytes)) = some (some (.agg ⟨[.int .i64 0, .int .i64 0]⟩), 2, 16) := by kernel_rfl
theorem pl146 : PlacesAt Try.prog 146 [(0, 1), (1, 1)] := ⟨_, Try.underlying146, by kernel_rfl⟩
theorem ia146 : IntsAt Try.prog 146 [.i64, .i64] := intsAt_of (by kernel_rfl)
theorem fa146_0 : FieldAt Try.prog 146 0 0 := fieldAt Try.underlying146 rfl rfl ts3 rfl
theorem fa146_1 : FieldAt Try.prog 146 1 1 := fieldAt Try.underlying146 rfl rfl ts3 rfl
theorem tz147 : (Try.prog.info? 147).bind (·.zero) = some (.agg ⟨[.int .i64 0, .int .i64 0, .int .i64 0, .int .i64 0, .int .i64 0, .int .i64 0, .int .i64 0, .int .i64 0, .int .i64 0, .int .i64 0, .int .i64 0, .int .i64 0, .int .i64 0, .int .i64 0, .pointer none, .pointer none, .pointer none, .slice none 0 0, .slice none 0 0, .slice none 0 0, .int .i64 0, .int .i64 0]⟩) := by kernel_rfl
theorem ti147 : (Try.prog.info? 147).map (fun i => (i.zero, i.size, i.bytes)) = some (some (.agg ⟨[.int .i64 0, .int .i64 0, .int .i64 0, .int .i64 0, .int .i64 0, .int .i64 0, .int .i64 0, .int .i64 0, .int .i64 0, .int .i64 0, .int .i64 0, .int .i64 0, .int .i64 0, .int .i64 0, .pointer none, .pointer none, .pointer none, .slice none 0 0, .slice none 0 0, .slice none 0 0, .int .i64 0, .int .i64 0]⟩), 22, 224) := by kernel_rfl
theorem pl147 : PlacesAt Try.prog 147 [(0, 14), (14, 1), (15, 1), (16, 1), (17, 1), (18, 1), (19, 1), (20, 2)] := ⟨_, Try.underlying147, by kernel_rfl⟩
theorem fa147_0 : FieldAt Try.prog 147 0 0 := fieldAt Try.underlying147 rfl rfl ts28 rfl
theorem fa147_1 : FieldAt Try.prog 147 1 14 := fieldAt Try.underlying147 rfl rfl ts136 rfl
theorem fa147_2 : FieldAt Try.prog 147 2 15 := fieldAt Try.underlying147 rfl rfl ts139 rfl
theorem fa147_3 : FieldAt Try.prog 147 3 16 := fieldAt Try.underlying147 rfl rfl ts142 rfl
theorem fa147_4 : FieldAt Try.prog 147 4 17 := fieldAt Try.underlying147 rfl rfl ts144 rfl
theorem fa147_5 : FieldAt Try.prog 147 5 18 := fieldAt Try.underlying147 rfl rfl ts96 rfl
theorem fa147_6 : FieldAt Try.prog 147 6 19 := fieldAt Try.underlying147 rfl rfl ts56 rfl
theorem fa147_7 : FieldAt Try.prog 147 7 20 := fieldAt Try.underlying147 rfl rfl ts146 rfl
theorem tz148 : (Try.prog.info? 148).bind (·.zero) = some (.agg ⟨[.int .i64 0, .int .i64 0, .int .i64 0, .int .i64 0, .int .i64 0, .int .i64 0, .int .i64 0, .int .i64 0, .int .i64 0, .int .i64 0, .int .i64 0, .int .i64 0, .int .i64 0, .int .i64 0, .pointer none, .pointer none, .pointer none, .slice none 0 0, .slice none 0 0, .slice none 0 0, .int .i64 0, .int .i64 0]⟩) := by kernel_rfl
theorem ti148 : (Try.prog.info? 148).map (fun i => (i.zero, i.size, i.bytes)) = some (some (.agg ⟨[.int .i64 0, .int .i64 0, .int .i64 0, .int .i64 0, .int .i64 0, .int .i64 0, .int .i64 0, .int .i64 0, .int .i64 0, .int .i64 0, .int .i64 0, .int .i64 0, .int .i64 0, .int .i64 0, .pointer none, .pointer none, .pointer none, .slice none 0 0, .slice none 0 0, .slice none 0 0, .int .i64 0, .int .i64 0]⟩), 22, 224) := by kernel_rfl
theorem pl148 : PlacesAt Try.prog 148 [(0, 14), (14, 1), (15, 1), (16, 1), (17, 1), (18, 1), (19, 1), (20, 2)] := ⟨_, Try.underlying148, by kernel_rfl⟩
theorem fa148_0 : FieldAt Try.prog 148 0 0 := fieldAt Try.underlying148 rfl rfl ts28 rfl
theorem fa148_1 : FieldAt Try.prog 148 1 14 := fieldAt Try.underlying148 rfl rfl ts136 rfl
theorem fa148_2 : FieldAt Try.prog 148 2 15 := fieldAt Try.underlying148 rfl rfl ts139 rfl
theorem fa148_3 : FieldAt Try.prog 148 3 16 := fieldAt Try.underlying148 rfl rfl ts142 rfl
theorem fa148_4 : FieldAt Try.prog 148 4 17 := fieldAt Try.underlying148 rfl rfl ts144 rfl
theorem fa148_5 : FieldAt Try.prog 148 5 18 := fieldAt Try.underlying148 rfl rfl ts96 rfl
theorem fa148_6 : FieldAt Try.prog 148 6 19 := fieldAt Try.underlying148 rfl rfl ts56 rfl
theorem fa148_7 : FieldAt Try.prog 148 7 20 := fieldAt Try.underlying148 rfl rfl ts146 rfl
theorem tz160 : (Try.prog.info? 160).bind (·.zero) = some (.int .u64 0) := by kernel_rfl
theorem ti160 : (Try.prog.info? 160).map (fun i => (i.zero, i.size, i.bytes)) = some (some (.int .u64 0), 1, 8) := by kernel_rfl
theorem tz164 : (Try.prog.info? 164).bind (·.zero) = some (.pointer none) := by kernel_rfl
theorem ti164 : (Try.prog.info? 164).map (fun i => (i.zero, i.size, i.bytes)) = some (some (.pointer none), 1, 8) := by kernel_rfl
theorem tz167 : (Try.prog.info? 167).bind (·.zero) = some (.agg ⟨List.replicate 2 (.string ⟨#[]⟩)⟩) := by kernel_rfl
theorem ti167 : (Try.prog.info? 167).map (fun i => (i.zero, i.size, i.bytes)) = some (some (.agg ⟨List.replicate 2 (.string ⟨#[]⟩)⟩), 2, 32) := by kernel_rfl
theorem tz172 : (Try.prog.info? 172).bind (·.zero) = some (.pointer none) := by kernel_rfl
theorem ti172 : (Try.prog.info? 172).map (fun i => (i.zero, i.size, i.bytes)) = some (some (.pointer none), 1, 8) := by kernel_rfl
theorem tz180 : (Try.prog.info? 180).bind (·.zero) = some (.agg ⟨List.replicate 6 (.int .i64 0)⟩) := by kernel_rfl
theorem ti180 : (Try.prog.info? 180).map (fun i => (i.zero, i.size, i.bytes)) = some (some (.agg ⟨List.replicate 6 (.int .i64 0)⟩), 6, 48) := by kernel_rfl
theorem tz188 : (Try.prog.info? 188).bind (·.zero) = some (.agg ⟨List.replicate 2 (.int .i64 0)⟩) := by kernel_rfl
theorem ti188 : (Try.prog.info? 188).map (fun i => (i.zero, i.size, i.bytes)) = some (some (.agg ⟨List.replicate 2 (.int .i64 0)⟩), 2, 16) := by kernel_rfl
theorem tz189 : (Try.prog.info? 189).bind (·.zero) = some (.agg ⟨List.replicate 2 (.int .i64 0) ++ List.replicate 2 (.int .i64 0) ++ List.replicate 2 (.int .i64 0) ++ List.replicate 2 (.int .i64 0)⟩) := by kernel_rfl
theorem ti189 : (Try.prog.info? 189).map (fun i => (i.zero, i.size, i.bytes)) = some (some (.agg ⟨List.replicate 2 (.int .i64 0) ++ List.replicate 2 (.int .i64 0) ++ List.replicate 2 (.int .i64 0) ++ List.replicate 2 (.int .i64 0)⟩), 8, 64) := by kernel_rfl
theorem tz190 : (Try.prog.info? 190).bind (·.zero) = some (.agg ⟨List.replicate 32 (.int .u8 0) ++ [.int .i64 0, .slice none 0 0, .int .i64 0]⟩) := by kernel_rfl
theorem ti190 : (Try.prog.info? 190).map (fun i => (i.zero, i.size, i.bytes)) = some (some (.agg ⟨List.replicate 32 (.int .u8 0) ++ [.int .i64 0, .slice none 0 0, .int .i64 0]⟩), 35, 72) := by kernel_rfl
theorem pl190 : PlacesAt Try.prog 190 [(0, 32), (32, 1), (33, 1), (34, 1)] := ⟨_, Try.underlying190, by kernel_rfl⟩
theorem fa190_0 : FieldAt Try.prog 190 0 0 := fieldAt Try.underlying190 rfl rfl ts57 rfl
theorem fa190_1 : FieldAt Try.prog 190 1 32 := fieldAt Try.underlying190 rfl rfl ts3 rfl
theorem fa190_2 : FieldAt Try.prog 190 2 33 := fieldAt Try.underlying190 rfl rfl ts32 rfl
theorem fa190_3 : FieldAt Try.prog 190 3 34 := fieldAt Try.underlying190 rfl rfl ts3 rfl
theorem tz191 : (Try.prog.info? 191).bind (·.zero) = some (.agg ⟨List.replicate 32 (.int .u8 0) ++ [.int .i64 0, .slice none 0 0, .int .i64 0]⟩) := by kernel_rfl
theorem ti191 : (Try.prog.info? 191).map (fun i => (i.zero, i.size, i.bytes)) = some (some (.agg ⟨List.replicate 32 (.int .u8 0) ++ [.int .i64 0, .slice none 0 0, .int .i64 0]⟩), 35, 72) := by kernel_rfl
theorem pl191 : PlacesAt Try.prog 191 [(0, 32), (32, 1), (33, 1), (34, 1)] := ⟨_, Try.underlying191, by kernel_rfl⟩
theorem fa191_0 : FieldAt Try.prog 191 0 0 := fieldAt Try.underlying191 rfl rfl ts57 rfl
theorem fa191_1 : FieldAt Try.prog 191 1 32 := fieldAt Try.underlying191 rfl rfl ts3 rfl
theorem fa191_2 : FieldAt Try.prog 191 2 33 := fieldAt Try.underlying191 rfl rfl ts32 rfl
theorem fa191_3 : FieldAt Try.prog 191 3 34 := fieldAt Try.underlying191 rfl rfl ts3 rfl
theorem tz192 : (Try.prog.info? 192).bind (·.zero) = some (.map none) := by kernel_rfl
theorem ti192 : (Try.prog.info? 192).map (fun i => (i.zero, i.size, i.bytes)) = some (some (.map none), 1, 8) := by kernel_rfl
theorem tz194 : (Try.prog.info? 194).bind (·.zero) = some (.agg ⟨List.replicate 32 (.int .u8 0) ++ [.int .i64 0, .int .i64 0]⟩) := by kernel_rfl
theorem ti194 : (Try.prog.info? 194).map (fun i => (i.zero, i.size, i.bytes)) = some (some (.agg ⟨List.replicate 32 (.int .u8 0) ++ [.int .i64 0, .int .i64 0]⟩), 34, 48) := by kernel_rfl
theorem pl194 : PlacesAt Try.prog 194 [(0, 32), (32, 1), (33, 1)] := ⟨_, Try.underlying194, by kernel_rfl⟩
theorem fa194_0 : FieldAt Try.prog 194 0 0 := fieldAt Try.underlying194 rfl rfl ts57 rfl
theorem fa194_1 : FieldAt Try.prog 194 1 32 := fieldAt Try.underlying194 rfl rfl ts3 rfl
theorem fa194_2 : FieldAt Try.prog 194 2 33 := fieldAt Try.underlying194 rfl rfl ts3 rfl
theorem tz195 : (Try.prog.info? 195).bind (·.zero) = some (.agg ⟨List.replicate 32 (.int .u8 0) ++ [.int .i64 0, .int .i64 0]⟩) := by kernel_rfl
theorem ti195 : (Try.prog.info? 195).map (fun i => (i.zero, i.size, i.bytes)) = some (some (.agg ⟨List.replicate 32 (.int .u8 0) ++ [.int .i64 0, .int .i64 0]⟩), 34, 48) := by kernel_rfl
theorem pl195 : PlacesAt Try.prog 195 [(0, 32), (32, 1), (33, 1)] := ⟨_, Try.underlying195, by kernel_rfl⟩
theorem fa195_0 : FieldAt Try.prog 195 0 0 := fieldAt Try.underlying195 rfl rfl ts57 rfl
theorem fa195_1 : FieldAt Try.prog 195 1 32 := fieldAt Try.underlying195 rfl rfl ts3 rfl
theorem fa195_2 : FieldAt Try.prog 195 2 33 := fieldAt Try.underlying195 rfl rfl ts3 rfl
theorem tz200 : (Try.prog.info? 200).bind (·.zero) = some (.agg ⟨[.slice none 0 0]⟩) := by kernel_rfl
theorem ti200 : (Try.prog.info? 200).map (fun i => (i.zero, i.size, i.bytes)) = some (some (.agg ⟨[.slice none 0 0]⟩), 1, 24) := by kernel_rfl
theorem pl200 : PlacesAt Try.prog 200 [(0, 1)] := ⟨_, Try.underlying200, by kernel_rfl⟩
theorem fa200_0 : FieldAt Try.prog 200 0 0 := fieldAt Try.underlying200 rfl rfl ts39 rfl
theorem tz201 : (Try.prog.info? 201).bind (·.zero) = some (.agg ⟨[.slice none 0 0]⟩) := by kernel_rfl
theorem ti201 : (Try.prog.info? 201).map (fun i => (i.zero, i.size, i.bytes)) = some (some (.agg ⟨[.slice none 0 0]⟩), 1, 24) := by kernel_rfl
theorem pl201 : PlacesAt Try.prog 201 [(0, 1)] := ⟨_, Try.underlying201, by kernel_rfl⟩
theorem fa201_0 : FieldAt Try.prog 201 0 0 := fieldAt Try.underlying201 rfl rfl ts39 rfl
theorem tz202 : (Try.prog.info? 202).bind (·.zero) = some (.slice none 0 0) := by kernel_rfl
theorem ti202 : (Try.prog.info? 202).map (fun i => (i.zero, i.size, i.bytes)) = some (some (.slice none 0 0), 1, 24) := by kernel_rfl
theorem tz203 : (Try.prog.info? 203).bind (·.zero) = some (.agg ⟨[.slice none 0 0, .int .i64 0]⟩) := by kernel_rfl
theorem ti203 : (Try.prog.info? 203).map (fun i => (i.zero, i.size, i.bytes)) = some (some (.agg ⟨[.slice none 0 0, .int .i64 0]⟩), 2, 32) := by kernel_rfl
theorem pl203 : PlacesAt Try.prog 203 [(0, 1), (1, 1)] := ⟨_, Try.underlying203, by kernel_rfl⟩
theorem fa203_0 : FieldAt Try.prog 203 0 0 := fieldAt Try.underlying203 rfl rfl ts202 rfl
theorem fa203_1 : FieldAt Try.prog 203 1 1 := fieldAt Try.underlying203 rfl rfl ts3 rfl
theorem tz204 : (Try.prog.info? 204).bind (·.zero) = some (.agg ⟨[.slice none 0 0, .int .i64 0]⟩) := by kernel_rfl
theorem ti204 : (Try.prog.info? 204).map (fun i => (i.zero, i.size, i.bytes)) = some (some (.agg ⟨[.slice none 0 0, .int .i64 0]⟩), 2, 32) := by kernel_rfl
theorem pl204 : PlacesAt Try.prog 204 [(0, 1), (1, 1)] := ⟨_, Try.underlying204, by kernel_rfl⟩
theorem fa204_0 : FieldAt Try.prog 204 0 0 := fieldAt Try.underlying204 rfl rfl ts202 rfl
theorem fa204_1 : FieldAt Try.prog 204 1 1 := fieldAt Try.underlying204 rfl rfl ts3 rfl
theorem tz205 : (Try.prog.info? 205).bind (·.zero) = some (.slice none 0 0) := by kernel_rfl
theorem ti205 : (Try.prog.info? 205).map (fun i => (i.zero, i.size, i.bytes)) = some (some (.slice none 0 0), 1, 24) := by kernel_rfl
theorem tz206 : (Try.prog.info? 206).bind (·.zero) = some (.agg ⟨[.slice none 0 0, .map none]⟩) := by kernel_rfl
theorem ti206 : (Try.prog.info? 206).map (fun i => (i.zero, i.size, i.bytes)) = some (some (.agg ⟨[.slice none 0 0, .map none]⟩), 2, 32) := by kernel_rfl
theorem pl206 : PlacesAt Try.prog 206 [(0, 1), (1, 1)] := ⟨_, Try.underlying206, by kernel_rfl⟩
theorem fa206_0 : FieldAt Try.prog 206 0 0 := fieldAt Try.underlying206 rfl rfl ts205 rfl
theorem fa206_1 : FieldAt Try.prog 206 1 1 := fieldAt Try.underlying206 rfl rfl ts42 rfl
theorem tz207 : (Try.prog.info? 207).bind (·.zero) = some (.agg ⟨[.slice none 0 0, .map none]⟩) := by kernel_rfl
theorem ti207 : (Try.prog.info? 207).map (fun i => (i.zero, i.size, i.bytes)) = some (some (.agg ⟨[.slice none 0 0, .map none]⟩), 2, 32) := by kernel_rfl
theorem pl207 : PlacesAt Try.prog 207 [(0, 1), (1, 1)] := ⟨_, Try.underlying207, by kernel_rfl⟩
theorem fa207_0 : FieldAt Try.prog 207 0 0 := fieldAt Try.underlying207 rfl rfl ts205 rfl
theorem fa207_1 : FieldAt Try.prog 207 1 1 := fieldAt Try.underlying207 rfl rfl ts42 rfl
theorem tz210 : (Try.prog.info? 210).bind (·.zero) = some (.agg ⟨List.replicate 4 (.int .u8 0)⟩) := by kernel_rfl
theorem ti210 : (Try.prog.info? 210).map (fun i => (i.zero, i.size, i.bytes)) = some (some (.agg ⟨List.replicate 4 (.int .u8 0)⟩), 4, 4) := by kernel_rfl
theorem tz212 : (Try.prog.info? 212).bind (·.zero) = some (.int .u32 0) := by kernel_rfl
theorem ti212 : (Try.prog.info? 212).map (fun i => (i.zero, i.size, i.bytes)) = some (some (.int .u32 0), 1, 4) := by kernel_rfl
theorem tz214 : (Try.prog.info? 214).bind (·.zero) = some (.slice none 0 0) := by kernel_rfl
theorem ti214 : (Try.prog.info? 214).map (fun i => (i.zero, i.size, i.bytes)) = some (some (.slice none 0 0), 1, 24) := by kernel_rfl
theorem tz216 : (Try.prog.info? 216).bind (·.zero) = some (.agg ⟨List.replicate 8 (.int .u32 0)⟩) := by kernel_rfl
theorem ti216 : (Try.prog.info? 216).map (fun i => (i.zero, i.size, i.bytes)) = some (some (.agg ⟨List.replicate 8 (.int .u32 0)⟩), 8, 32) := by kernel_rfl
theorem tz218 : (Try.prog.info? 218).bind (·.zero) = some (.agg ⟨List.replicate 64 (.int .u32 0)⟩) := by kernel_rfl
theorem ti218 : (Try.prog.info? 218).map (fun i => (i.zero, i.size, i.bytes)) = some (some (.agg ⟨List.replicate 64 (.int .u32 0)⟩), 64, 256) := by kernel_rfl
theorem tz220 : (Try.prog.info? 220).bind (·.zero) = some (.int .u64 0) := by kernel_rfl
theorem ti220 : (Try.prog.info? 220).map (fun i => (i.zero, i.size, i.bytes)) = some (some (.int .u64 0), 1, 8) := by kernel_rfl
theorem tz222 : (Try.prog.info? 222).bind (·.zero) = some (.agg ⟨List.replicate 8 (.int .u32 0) ++ [.slice none 0 0, .int .u64 0]⟩) := by kernel_rfl
theorem ti222 : (Try.prog.info? 222).map (fun i => (i.zero, i.size, i.bytes)) = some (some (.agg ⟨List.replicate 8 (.int .u32 0) ++ [.slice none 0 0, .int .u64 0]⟩), 10, 64) := by kernel_rfl
theorem pl222 : PlacesAt Try.prog 222 [(0, 8), (8, 1), (9, 1)] := ⟨_, Try.underlying222, by kernel_rfl⟩
theorem fa222_0 : FieldAt Try.prog 222 0 0 := fieldAt Try.underlying222 rfl rfl ts216 rfl
theorem fa222_1 : FieldAt Try.prog 222 1 8 := fieldAt Try.underlying222 rfl rfl ts39 rfl
theorem fa222_2 : FieldAt Try.prog 222 2 9 := fieldAt Try.underlying222 rfl rfl ts160 rfl
theorem tz223 : (Try.prog.info? 223).bind (·.zero) = some (.agg ⟨List.replicate 8 (.int .u32 0) ++ [.slice none 0 0, .int .u64 0]⟩) := by kernel_rfl
theorem ti223 : (Try.prog.info? 223).map (fun i => (i.zero, i.size, i.bytes)) = some (some (.agg ⟨List.replicate 8 (.int .u32 0) ++ [.slice none 0 0, .int .u64 0]⟩), 10, 64) := by kernel_rfl
theorem pl223 : PlacesAt Try.prog 223 [(0, 8), (8, 1), (9, 1)] := ⟨_, Try.underlying223, by kernel_rfl⟩
theorem fa223_0 : FieldAt Try.prog 223 0 0 := fieldAt Try.underlying223 rfl rfl ts216 rfl
theorem fa223_1 : FieldAt Try.prog 223 1 8 := fieldAt Try.underlying223 rfl rfl ts39 rfl
theorem fa223_2 : FieldAt Try.prog 223 2 9 := fieldAt Try.underlying223 rfl rfl ts160 rfl
theorem tz225 : (Try.prog.info? 225).bind (·.zero) = some (.agg ⟨[.slice none 0 0, .bool false]⟩) := by kernel_rfl
theorem ti225 : (Try.prog.info? 225).map (fun i => (i.zero, i.size, i.bytes)) = some (some (.agg ⟨[.slice none 0 0, .bool false]⟩), 2, 32) := by kernel_rfl
theorem pl225 : PlacesAt Try.prog 225 [(0, 1), (1, 1)] := ⟨_, Try.underlying225, by kernel_rfl⟩
theorem fa225_0 : FieldAt Try.prog 225 0 0 := fieldAt Try.underlying225 rfl rfl ts39 rfl
theorem fa225_1 : FieldAt Try.prog 225 1 1 := fieldAt Try.underlying225 rfl rfl ts4 rfl
theorem tz226 : (Try.prog.info? 226).bind (·.zero) = some (.agg ⟨[.slice none 0 0, .bool false]⟩) := by kernel_rfl
theorem ti226 : (Try.prog.info? 226).map (fun i => (i.zero, i.size, i.bytes)) = some (some (.agg ⟨[.slice none 0 0, .bool false]⟩), 2, 32) := by kernel_rfl
theorem pl226 : PlacesAt Try.prog 226 [(0, 1), (1, 1)] := ⟨_, Try.underlying226, by kernel_rfl⟩
theorem fa226_0 : FieldAt Try.prog 226 0 0 := fieldAt Try.underlying226 rfl rfl ts39 rfl
theorem fa226_1 : FieldAt Try.prog 226 1 1 := fieldAt Try.underlying226 rfl rfl ts4 rfl
theorem tz250 : (Try.prog.info? 250).bind (·.zero) = some (.int .i64 0) := by kernel_rfl
theorem ti250 : (Try.prog.info? 250).map (fun i => (i.zero, i.size, i.bytes)) = some (some (.int .i64 0), 1, 8) := by kernel_rfl
theorem tz261 : (Try.prog.info? 261).bind (·.zero) = some (.int .u64 0) := by kernel_rfl
theorem ti261 : (Try.prog.info? 261).map (fun i => (i.zero, i.size, i.bytes)) = some (some (.int .u64 0), 1, 8) := by kernel_rfl
theorem tz265 : (Try.prog.info? 265).bind (·.zero) = some (.pointer none) := by kernel_rfl
theorem ti265 : (Try.prog.info? 265).map (fun i => (i.zero, i.size, i.bytes)) = some (some (.pointer none), 1, 8) := by kernel_rfl
theorem tz268 : (Try.prog.info? 268).bind (·.zero) = some (.pointer none) := by kernel_rfl
theorem ti268 : (Try.prog.info? 268).map (fun i => (i.zero, i.size, i.bytes)) = some (some (.pointer none), 1, 8) := by kernel_rfl
theorem tz272 : (Try.prog.info? 272).bind (·.zero) = some (.agg ⟨[.pointer none, .pointer none, .pointer none, .string ⟨#[]⟩]⟩) := by kernel_rfl
theorem ti272 : (Try.prog.info? 272).map (fun i => (i.zero, i.size, i.bytes)) = some (some (.agg ⟨[.pointer none, .pointer none, .pointer none, .string ⟨#[]⟩]⟩), 4, 40) := by kernel_rfl
theorem pl272 : PlacesAt Try.prog 272 [(0, 1), (1, 1), (2, 1), (3, 1)] := ⟨_, Try.underlying272, by kernel_rfl⟩
theorem fa272_0 : FieldAt Try.prog 272 0 0 := fieldAt Try.underlying272 rfl rfl ts17 rfl
theorem fa272_1 : FieldAt Try.prog 272 1 1 := fieldAt Try.underlying272 rfl rfl ts17 rfl
theorem fa272_2 : FieldAt Try.prog 272 2 2 := fieldAt Try.underlying272 rfl rfl ts17 rfl
theorem fa272_3 : FieldAt Try.prog 272 3 3 := fieldAt Try.underlying272 rfl rfl ts9 rfl
theorem tz273 : (Try.prog.info? 273).bind (·.zero) = some (.agg ⟨[.pointer none, .pointer none, .pointer none, .string ⟨#[]⟩]⟩) := by kernel_rfl
theorem ti273 : (Try.prog.info? 273).map (fun i => (i.zero, i.size, i.bytes)) = some (some (.agg ⟨[.pointer none, .pointer none, .pointer none, .string ⟨#[]⟩]⟩), 4, 40) := by kernel_rfl
theorem pl273 : PlacesAt Try.prog 273 [(0, 1), (1, 1), (2, 1), (3, 1)] := ⟨_, Try.underlying273, by kernel_rfl⟩
theorem fa273_0 : FieldAt Try.prog 273 0 0 := fieldAt Try.underlying273 rfl rfl ts17 rfl
theorem fa273_1 : FieldAt Try.prog 273 1 1 := fieldAt Try.underlying273 rfl rfl ts17 rfl
theorem fa273_2 : FieldAt Try.prog 273 2 2 := fieldAt Try.underlying273 rfl rfl ts17 rfl
theorem fa273_3 : FieldAt Try.prog 273 3 3 := fieldAt Try.underlying273 rfl rfl ts9 rfl
theorem tz274 : (Try.prog.info? 274).bind (·.zero) = some (.agg ⟨List.replicate 0 (.pointer none)⟩) := by kernel_rfl
theorem ti274 : (Try.prog.info? 274).map (fun i => (i.zero, i.size, i.bytes)) = some (some (.agg ⟨List.replicate 0 (.pointer none)⟩), 0, 0) := by kernel_rfl
theorem tz275 : (Try.prog.info? 275).bind (·.zero) = some (.agg ⟨List.replicate 0 (.pointer none)⟩) := by kernel_rfl
theorem ti275 : (Try.prog.info? 275).map (fun i => (i.zero, i.size, i.bytes)) = some (some (.agg ⟨List.replicate 0 (.pointer none)⟩), 0, 0) := by kernel_rfl
theorem pl275 : PlacesAt Try.prog 275 [(0, 0)] := ⟨_, Try.underlying275, by kernel_rfl⟩
theorem tz276 : (Try.prog.info? 276).bind (·.zero) = some (.agg ⟨List.replicate 0 (.pointer none)⟩) := by kernel_rfl
theorem ti276 : (Try.prog.info? 276).map (fun i => (i.zero, i.size, i.bytes)) = some (some (.agg ⟨List.replicate 0 (.pointer none)⟩), 0, 0) := by kernel_rfl
theorem pl276 : PlacesAt Try.prog 276 [(0, 0)] := ⟨_, Try.underlying276, by kernel_rfl⟩
theorem tz278 : (Try.prog.info? 278).bind (·.zero) = some (.int .u8 0) := by kernel_rfl
theorem ti278 : (Try.prog.info? 278).map (fun i => (i.zero, i.size, i.bytes)) = some (some (.int .u8 0), 1, 1) := by kernel_rfl
theorem tz279 : (Try.prog.info? 279).bind (·.zero) = some (.int .u8 0) := by kernel_rfl
theorem ti279 : (Try.prog.info? 279).map (fun i => (i.zero, i.size, i.bytes)) = some (some (.int .u8 0), 1, 1) := by kernel_rfl
theorem tz281 : (Try.prog.info? 281).bind (·.zero) = some (.pointer none) := by kernel_rfl
theorem ti281 : (Try.prog.info? 281).map (fun i => (i.zero, i.size, i.bytes)) = some (some (.pointer none), 1, 8) := by kernel_rfl
theorem tz282 : (Try.prog.info? 282).bind (·.zero) = some (.int .i32 0) := by kernel_rfl
theorem ti282 : (Try.prog.info? 282).map (fun i => (i.zero, i.size, i.bytes)) = some (some (.int .i32 0), 1, 4) := by kernel_rfl
theorem tz283 : (Try.prog.info? 283).bind (·.zero) = some (.int .i32 0) := by kernel_rfl
theorem ti283 : (Try.prog.info? 283).map (fun i => (i.zero, i.size, i.bytes)) = some (some (.int .i32 0), 1, 4) := by kernel_rfl
theorem tz284 : (Try.prog.info? 284).bind (·.zero) = some (.agg ⟨[.int .u64 0, .int .u64 0, .int .u32 0, .int .u8 0, .int .u8 0, .int .u8 0, .int .u8 0, .nilFunc, .pointer none, .int .i32 0, .int .i32 0]⟩) := by kernel_rfl
theorem ti284 : (Try.prog.info? 284).map (fun i => (i.zero, i.size, i.bytes)) = some (some (.agg ⟨[.int .u64 0, .int .u64 0, .int .u32 0, .int .u8 0, .int .u8 0, .int .u8 0, .int .u8 0, .nilFunc, .pointer none, .int .i32 0, .int .i32 0]⟩), 11, 48) := by kernel_rfl
theorem fa284_0 : FieldAt Try.prog 284 0 0 := fieldAt Try.underlying284 rfl rfl ts12 rfl
theorem fa284_1 : FieldAt Try.prog 284 1 1 := fieldAt Try.underlying284 rfl rfl ts12 rfl
theorem fa284_2 : FieldAt Try.prog 284 2 2 := fieldAt Try.underlying284 rfl rfl ts212 rfl
theorem fa284_3 : FieldAt Try.prog 284 3 3 := fieldAt Try.underlying284 rfl rfl ts278 rfl
theorem fa284_4 : FieldAt Try.prog 284 4 4 := fieldAt Try.underlying284 rfl rfl ts5 rfl
theorem fa284_5 : FieldAt Try.prog 284 5 5 := fieldAt Try.underlying284 rfl rfl ts5 rfl
theorem fa284_6 : FieldAt Try.prog 284 6 6 := fieldAt Try.underlying284 rfl rfl ts279 rfl
theorem fa284_8 : FieldAt Try.prog 284 8 8 := fieldAt Try.underlying284 rfl rfl ts281 rfl
theorem fa284_9 : FieldAt Try.prog 284 9 9 := fieldAt Try.underlying284 rfl rfl ts282 rfl
theorem fa284_10 : FieldAt Try.prog 284 10 10 := fieldAt Try.underlying284 rfl rfl ts283 rfl
theorem tz285 : (Try.prog.info? 285).bind (·.zero) = some (.agg ⟨[.int .u64 0, .int .u64 0, .int .u32 0, .int .u8 0, .int .u8 0, .int .u8 0, .int .u8 0, .nilFunc, .pointer none, .int .i32 0, .int .i32 0]⟩) := by kernel_rfl
theorem ti285 : (Try.prog.info? 285).map (fun i => (i.zero, i.size, i.bytes)) = some (some (.agg ⟨[.int .u64 0, .int .u64 0, .int .u32 0, .int .u8 0, .int .u8 0, .int .u8 0, .int .u8 0, .nilFunc, .pointer none, .int .i32 0, .int .i32 0]⟩), 11, 48) := by kernel_rfl
theorem fa285_0 : FieldAt Try.prog 285 0 0 := fieldAt Try.underlying285 rfl rfl ts12 rfl
theorem fa285_1 : FieldAt Try.prog 285 1 1 := fieldAt Try.underlying285 rfl rfl ts12 rfl
theorem fa285_2 : FieldAt Try.prog 285 2 2 := fieldAt Try.underlying285 rfl rfl ts212 rfl
theorem fa285_3 : FieldAt Try.prog 285 3 3 := fieldAt Try.underlying285 rfl rfl ts278 rfl
theorem fa285_4 : FieldAt Try.prog 285 4 4 := fieldAt Try.underlying285 rfl rfl ts5 rfl
theorem fa285_5 : FieldAt Try.prog 285 5 5 := fieldAt Try.underlying285 rfl rfl ts5 rfl
theorem fa285_6 : FieldAt Try.prog 285 6 6 := fieldAt Try.underlying285 rfl rfl ts279 rfl
theorem fa285_8 : FieldAt Try.prog 285 8 8 := fieldAt Try.underlying285 rfl rfl ts281 rfl
theorem fa285_9 : FieldAt Try.prog 285 9 9 := fieldAt Try.underlying285 rfl rfl ts282 rfl
theorem fa285_10 : FieldAt Try.prog 285 10 10 := fieldAt Try.underlying285 rfl rfl ts283 rfl
theorem tz286 : (Try.prog.info? 286).bind (·.zero) = some (.agg ⟨[.string ⟨#[]⟩, .int .i64 0, .bool false, .bool false]⟩) := by kernel_rfl
theorem ti286 : (Try.prog.info? 286).map (fun i => (i.zero, i.size, i.bytes)) = some (some (.agg ⟨[.string ⟨#[]⟩, .int .i64 0, .bool false, .bool false]⟩), 4, 32) := by kernel_rfl
theorem pl286 : PlacesAt Try.prog 286 [(0, 1), (1, 1), (2, 1), (3, 1)] := ⟨_, Try.underlying286, by kernel_rfl⟩
theorem fa286_0 : FieldAt Try.prog 286 0 0 := fieldAt Try.underlying286 rfl rfl ts9 rfl
theorem fa286_1 : FieldAt Try.prog 286 1 1 := fieldAt Try.underlying286 rfl rfl ts3 rfl
theorem fa286_2 : FieldAt Try.prog 286 2 2 := fieldAt Try.underlying286 rfl rfl ts4 rfl
theorem fa286_3 : FieldAt Try.prog 286 3 3 := fieldAt Try.underlying286 rfl rfl ts4 rfl
theorem tz287 : (Try.prog.info? 287).bind (·.zero) = some (.agg ⟨[.string ⟨#[]⟩, .int .i64 0, .bool false, .bool false]⟩) := by kernel_rfl
theorem ti287 : (Try.prog.info? 287).map (fun i => (i.zero, i.size, i.bytes)) = some (some (.agg ⟨[.string ⟨#[]⟩, .int .i64 0, .bool false, .bool false]⟩), 4, 32) := by kernel_rfl
theorem pl287 : PlacesAt Try.prog 287 [(0, 1), (1, 1), (2, 1), (3, 1)] := ⟨_, Try.underlying287, by kernel_rfl⟩
theorem fa287_0 : FieldAt Try.prog 287 0 0 := fieldAt Try.underlying287 rfl rfl ts9 rfl
theorem fa287_1 : FieldAt Try.prog 287 1 1 := fieldAt Try.underlying287 rfl rfl ts3 rfl
theorem fa287_2 : FieldAt Try.prog 287 2 2 := fieldAt Try.underlying287 rfl rfl ts4 rfl
theorem fa287_3 : FieldAt Try.prog 287 3 3 := fieldAt Try.underlying287 rfl rfl ts4 rfl
theorem mixed : Try.prog.follows .mixedOrders = true := by kernel_rfl
end Go.Proofs.Ytblpmjbddpadcaa
