/- Closed facts on the program's types. -/
import Derived.Test.YtjbbknjhgdmdkaaMore
import Derived.Test.YtjbbknjhgdmdkaaProg
namespace Go.Proofs.Ytjbbknjhgdmdkaa
open Go.Mo
theorem ts2 : (Try.prog.info? 2).map (·.size) = some 1 := by kernel_rfl
theorem ts3 : (Try.prog.info? 3).map (·.size) = some 1 := by kernel_rfl
theorem ts4 : (Try.prog.info? 4).map (·.size) = some 1 := by kernel_rfl
theorem ts5 : (Try.prog.info? 5).map (·.size) = some 1 := by kernel_rfl
theorem ts6 : (Try.prog.info? 6).map (·.size) = some 1 := by kernel_rfl
theorem ts7 : (Try.prog.info? 7).map (·.size) = some 4 := by kernel_rfl
theorem ts8 : (Try.prog.info? 8).map (·.size) = some 4 := by kernel_rfl
theorem ts9 : (Try.prog.info? 9).map (·.size) = some 1 := by kernel_rfl
theorem ts10 : (Try.prog.info? 10).map (·.size) = some 1 := by kernel_rfl
theorem ts11 : (Try.prog.info? 11).map (·.size) = some 1 := by kernel_rfl
theorem ts12 : (Try.prog.info? 12).map (·.size) = some 1 := by kernel_rfl
theorem ts13 : (Try.prog.info? 13).map (·.size) = some 2 := by kernel_rfl
theorem ts14 : (Try.prog.info? 14).map (·.size) = some 2 := by kernel_rfl
theorem ts15 : (Try.prog.info? 15).map (·.size) = some 1 := by kernel_rfl
theorem ts16 : (Try.prog.info? 16).map (·.size) = some 1 := by kernel_rfl
theorem ts17 : (Try.prog.info? 17).map (·.size) = some 1 := by kernel_rfl
theorem ts18 : (Try.prog.info? 18).map (·.size) = some 1 := by kernel_rfl
theorem ts19 : (Try.prog.info? 19).map (·.size) = some 1 := by kernel_rfl
theorem ts20 : (Try.prog.info? 20).map (·.size) = some 1 := by kernel_rfl
theorem ts21 : (Try.prog.info? 21).map (·.size) = some 1 := by kernel_rfl
theorem ts22 : (Try.prog.info? 22).map (·.size) = some 1 := by kernel_rfl
theorem ts24 : (Try.prog.info? 24).map (·.size) = some 1 := by kernel_rfl
theorem ts26 : (Try.prog.info? 26).map (·.size) = some 1 := by kernel_rfl
theorem ts27 : (Try.prog.info? 27).map (·.size) = some 3 := by kernel_rfl
theorem ts28 : (Try.prog.info? 28).map (·.size) = some 3 := by kernel_rfl
theorem ts31 : (Try.prog.info? 31).map (·.size) = some 2 := by kernel_rfl
theorem ts32 : (Try.prog.info? 32).map (·.size) = some 2 := by kernel_rfl
theorem ts39 : (Try.prog.info? 39).map (·.size) = some 1 := by kernel_rfl
theorem ts42 : (Try.prog.info? 42).map (·.size) = some 1 := by kernel_rfl
theorem ts43 : (Try.prog.info? 43).map (·.size) = some 1 := by kernel_rfl
theorem ts48 : (Try.prog.info? 48).map (·.size) = some 4 := by kernel_rfl
theorem ts49 : (Try.prog.info? 49).map (·.size) = some 4 := by kernel_rfl
theorem ts50 : (Try.prog.info? 50).map (·.size) = some 1 := by kernel_rfl
theorem ts52 : (Try.prog.info? 52).map (·.size) = some 14 := by kernel_rfl
theorem ts53 : (Try.prog.info? 53).map (·.size) = some 14 := by kernel_rfl
theorem ts54 : (Try.prog.info? 54).map (·.size) = some 1 := by kernel_rfl
theorem ts57 : (Try.prog.info? 57).map (·.size) = some 1 := by kernel_rfl
theorem ts65 : (Try.prog.info? 65).map (·.size) = some 1 := by kernel_rfl
theorem ts67 : (Try.prog.info? 67).map (·.size) = some 256 := by kernel_rfl
theorem ts70 : (Try.prog.info? 70).map (·.size) = some 32 := by kernel_rfl
theorem ts71 : (Try.prog.info? 71).map (·.size) = some 35 := by kernel_rfl
theorem ts72 : (Try.prog.info? 72).map (·.size) = some 35 := by kernel_rfl
theorem ts87 : (Try.prog.info? 87).map (·.size) = some 1 := by kernel_rfl
theorem ts89 : (Try.prog.info? 89).map (·.size) = some 1 := by kernel_rfl
theorem ts90 : (Try.prog.info? 90).map (·.size) = some 1 := by kernel_rfl
theorem ts96 : (Try.prog.info? 96).map (·.size) = some 4 := by kernel_rfl
theorem ts97 : (Try.prog.info? 97).map (·.size) = some 4 := by kernel_rfl
theorem ts106 : (Try.prog.info? 106).map (·.size) = some 5 := by kernel_rfl
theorem ts107 : (Try.prog.info? 107).map (·.size) = some 5 := by kernel_rfl
theorem ts117 : (Try.prog.info? 117).map (·.size) = some 1 := by kernel_rfl
theorem ts120 : (Try.prog.info? 120).map (·.size) = some 1 := by kernel_rfl
theorem ts123 : (Try.prog.info? 123).map (·.size) = some 1 := by kernel_rfl
theorem ts124 : (Try.prog.info? 124).map (·.size) = some 100 := by kernel_rfl
theorem ts125 : (Try.prog.info? 125).map (·.size) = some 100 := by kernel_rfl
theorem ts138 : (Try.prog.info? 138).map (·.size) = some 1 := by kernel_rfl
theorem ts141 : (Try.prog.info? 141).map (·.size) = some 1 := by kernel_rfl
theorem ts142 : (Try.prog.info? 142).map (·.size) = some 2 := by kernel_rfl
theorem ts143 : (Try.prog.info? 143).map (·.size) = some 2 := by kernel_rfl
theorem ts144 : (Try.prog.info? 144).map (·.size) = some 3 := by kernel_rfl
theorem ts145 : (Try.prog.info? 145).map (·.size) = some 3 := by kernel_rfl
theorem ts147 : (Try.prog.info? 147).map (·.size) = some 1 := by kernel_rfl
theorem ts148 : (Try.prog.info? 148).map (·.size) = some 2 := by kernel_rfl
theorem ts149 : (Try.prog.info? 149).map (·.size) = some 2 := by kernel_rfl
theorem ts150 : (Try.prog.info? 150).map (·.size) = some 3 := by kernel_rfl
theorem ts151 : (Try.prog.info? 151).map (·.size) = some 3 := by kernel_rfl
theorem ts154 : (Try.prog.info? 154).map (·.size) = some 1 := by kernel_rfl
theorem ts156 : (Try.prog.info? 156).map (·.size) = some 2 := by kernel_rfl
theorem ts157 : (Try.prog.info? 157).map (·.size) = some 2 := by kernel_rfl
theorem ts165 : (Try.prog.info? 165).map (·.size) = some 1 := by kernel_rfl
theorem ts170 : (Try.prog.info? 170).map (·.size) = some 1 := by kernel_rfl
theorem ts179 : (Try.prog.info? 179).map (·.size) = some 2 := by kernel_rfl
theorem ts180 : (Try.prog.info? 180).map (·.size) = some 2 := by kernel_rfl
theorem ts182 : (Try.prog.info? 182).map (·.size) = some 5 := by kernel_rfl
theorem ts183 : (Try.prog.info? 183).map (·.size) = some 5 := by kernel_rfl
theorem ts190 : (Try.prog.info? 190).map (·.size) = some 1 := by kernel_rfl
theorem ts193 : (Try.prog.info? 193).map (·.size) = some 1 := by kernel_rfl
theorem ts196 : (Try.prog.info? 196).map (·.size) = some 1 := by kernel_rfl
theorem ts197 : (Try.prog.info? 197).map (·.size) = some 1 := by kernel_rfl
theorem ts198 : (Try.prog.info? 198).map (·.size) = some 2 := by kernel_rfl
theorem ts199 : (Try.prog.info? 199).map (·.size) = some 2 := by kernel_rfl
theorem ts200 : (Try.prog.info? 200).map (·.size) = some 22 := by kernel_rfl
theorem ts201 : (Try.prog.info? 201).map (·.size) = some 22 := by kernel_rfl
theorem ts215 : (Try.prog.info? 215).map (·.size) = some 39 := by kernel_rfl
theorem ts216 : (Try.prog.info? 216).map (·.size) = some 39 := by kernel_rfl
theorem ts219 : (Try.prog.info? 219).map (·.size) = some 1 := by kernel_rfl
theorem ts220 : (Try.prog.info? 220).map (·.size) = some 2 := by kernel_rfl
theorem ts221 : (Try.prog.info? 221).map (·.size) = some 2 := by kernel_rfl
theorem ts222 : (Try.prog.info? 222).map (·.size) = some 2 := by kernel_rfl
theorem ts223 : (Try.prog.info? 223).map (·.size) = some 8 := by kernel_rfl
theorem ts224 : (Try.prog.info? 224).map (·.size) = some 4 := by kernel_rfl
theorem ts226 : (Try.prog.info? 226).map (·.size) = some 1 := by kernel_rfl
theorem ts228 : (Try.prog.info? 228).map (·.size) = some 2 := by kernel_rfl
theorem ts229 : (Try.prog.info? 229).map (·.size) = some 2 := by kernel_rfl
theorem ts233 : (Try.prog.info? 233).map (·.size) = some 1 := by kernel_rfl
theorem ts234 : (Try.prog.info? 234).map (·.size) = some 1 := by kernel_rfl
theorem ts236 : (Try.prog.info? 236).map (·.size) = some 34 := by kernel_rfl
theorem ts237 : (Try.prog.info? 237).map (·.size) = some 34 := by kernel_rfl
theorem ts241 : (Try.prog.info? 241).map (·.size) = some 1 := by kernel_rfl
theorem ts243 : (Try.prog.info? 243).map (·.size) = some 1 := by kernel_rfl
theorem ts244 : (Try.prog.info? 244).map (·.size) = some 1 := by kernel_rfl
theorem ts245 : (Try.prog.info? 245).map (·.size) = some 1 := by kernel_rfl
theorem ts246 : (Try.prog.info? 246).map (·.size) = some 2 := by kernel_rfl
theorem ts247 : (Try.prog.info? 247).map (·.size) = some 2 := by kernel_rfl
theorem ts248 : (Try.prog.info? 248).map (·.size) = some 1 := by kernel_rfl
theorem ts252 : (Try.prog.info? 252).map (·.size) = some 1 := by kernel_rfl
theorem ts254 : (Try.prog.info? 254).map (·.size) = some 8 := by kernel_rfl
theorem ts256 : (Try.prog.info? 256).map (·.size) = some 64 := by kernel_rfl
theorem ts258 : (Try.prog.info? 258).map (·.size) = some 1 := by kernel_rfl
theorem ts259 : (Try.prog.info? 259).map (·.size) = some 34 := by kernel_rfl
theorem ts260 : (Try.prog.info? 260).map (·.size) = some 34 := by kernel_rfl
theorem ts268 : (Try.prog.info? 268).map (·.size) = some 10 := by kernel_rfl
theorem ts269 : (Try.prog.info? 269).map (·.size) = some 10 := by kernel_rfl
theorem ts281 : (Try.prog.info? 281).map (·.size) = some 4 := by kernel_rfl
theorem ts282 : (Try.prog.info? 282).map (·.size) = some 4 := by kernel_rfl
theorem ts283 : (Try.prog.info? 283).map (·.size) = some 0 := by kernel_rfl
theorem ts284 : (Try.prog.info? 284).map (·.size) = some 0 := by kernel_rfl
theorem ts285 : (Try.prog.info? 285).map (·.size) = some 0 := by kernel_rfl
theorem ts286 : (Try.prog.info? 286).map (·.size) = some 1 := by kernel_rfl
theorem ts287 : (Try.prog.info? 287).map (·.size) = some 1 := by kernel_rfl
theorem ts289 : (Try.prog.info? 289).map (·.size) = some 1 := by kernel_rfl
theorem ts290 : (Try.prog.info? 290).map (·.size) = some 1 := by kernel_rfl
theorem ts291 : (Try.prog.info? 291).map (·.size) = some 1 := by kernel_rfl
theorem ts292 : (Try.prog.info? 292).map (·.size) = some 11 := by kernel_rfl
theorem ts293 : (Try.prog.info? 293).map (·.size) = some 11 := by kernel_rfl
theorem tz2 : (Try.prog.info? 2).bind (·.zero) = some (.int .i64 0) := by kernel_rfl
theorem ti2 : (Try.prog.info? 2).map (fun i => (i.zero, i.size, i.bytes)) = some (some (.int .i64 0), 1, 8) := by kernel_rfl
theorem tz3 : (Try.prog.info? 3).bind (·.zero) = some (.int .i64 0) := by kernel_rfl
theorem ti3 : (Try.prog.info? 3).map (fun i => (i.zero, i.size, i.bytes)) = some (some (.int .i64 0), 1, 8) := by kernel_rfl
theorem tz4 : (Try.prog.info? 4).bind (·.zero) = some (.bool false) := by kernel_rfl
theorem ti4 : (Try.prog.info? 4).map (fun i => (i.zero, i.size, i.bytes)) = some (some (.bool false), 1, 1) := by kernel_rfl
theorem tz5 : (Try.prog.info? 5).bind (·.zero) = some (.int .u8 0) := by kernel_rfl
theorem ti5 : (Try.prog.info? 5).map (fun i => (i.zero, i.size, i.bytes)) = some (some (.int .u8 0), 1, 1) := by kernel_rfl
theorem tz6 : (Try.prog.info? 6).bind (·.zero) = some (.int .u8 0) := by kernel_rfl
theorem ti6 : (Try.prog.info? 6).map (fun i => (i.zero, i.size, i.bytes)) = some (some (.int .u8 0), 1, 1) := by kernel_rfl
theorem tz7 : (Try.prog.info? 7).bind (·.zero) = some (.agg ⟨[.int .i64 0, .int .i64 0, .bool false, .int .u8 0]⟩) := by kernel_rfl
theorem ti7 : (Try.prog.info? 7).map (fun i => (i.zero, i.size, i.bytes)) = some (some (.agg ⟨[.int .i64 0, .int .i64 0, .bool false, .int .u8 0]⟩), 4, 24) := by kernel_rfl
theorem pl7 : PlacesAt Try.prog 7 [(0, 1), (1, 1), (2, 1), (3, 1)] := ⟨_, Try.underlying7, by kernel_rfl⟩
theorem fa7_0 : FieldAt Try.prog 7 0 0 := fieldAt Try.underlying7 rfl rfl ts2 rfl
theorem fa7_1 : FieldAt Try.prog 7 1 1 := fieldAt Try.underlying7 rfl rfl ts3 rfl
theorem fa7_2 : FieldAt Try.prog 7 2 2 := fieldAt Try.underlying7 rfl rfl ts4 rfl
theorem fa7_3 : FieldAt Try.prog 7 3 3 := fieldAt Try.underlying7 rfl rfl ts6 rfl
theorem tz8 : (Try.prog.info? 8).bind (·.zero) = some (.agg ⟨[.int .i64 0, .int .i64 0, .bool false, .int .u8 0]⟩) := by kernel_rfl
theorem ti8 : (Try.prog.info? 8).map (fun i => (i.zero, i.size, i.bytes)) = some (some (.agg ⟨[.int .i64 0, .int .i64 0, .bool false, .int .u8 0]⟩), 4, 24) := by kernel_rfl
theorem pl8 : PlacesAt Try.prog 8 [(0, 1), (1, 1), (2, 1), (3, 1)] := ⟨_, Try.underlying8, by kernel_rfl⟩
theorem fa8_0 : FieldAt Try.prog 8 0 0 := fieldAt Try.underlying8 rfl rfl ts2 rfl
theorem fa8_1 : FieldAt Try.prog 8 1 1 := fieldAt Try.underlying8 rfl rfl ts3 rfl
theorem fa8_2 : FieldAt Try.prog 8 2 2 := fieldAt Try.underlying8 rfl rfl ts4 rfl
theorem fa8_3 : FieldAt Try.prog 8 3 3 := fieldAt Try.underlying8 rfl rfl ts6 rfl
theorem tz9 : (Try.prog.info? 9).bind (·.zero) = some (.string ⟨#[]⟩) := by kernel_rfl
theorem ti9 : (Try.prog.info? 9).map (fun i => (i.zero, i.size, i.bytes)) = some (some (.string ⟨#[]⟩), 1, 16) := by kernel_rfl
theorem tz10 : (Try.prog.info? 10).bind (·.zero) = some (.string ⟨#[]⟩) := by kernel_rfl
theorem ti10 : (Try.prog.info? 10).map (fun i => (i.zero, i.size, i.bytes)) = some (some (.string ⟨#[]⟩), 1, 16) := by kernel_rfl
theorem tz11 : (Try.prog.info? 11).bind (·.zero) = some (.string ⟨#[]⟩) := by kernel_rfl
theorem ti11 : (Try.prog.info? 11).map (fun i => (i.zero, i.size, i.bytes)) = some (some (.string ⟨#[]⟩), 1, 16) := by kernel_rfl
theorem tz12 : (Try.prog.info? 12).bind (·.zero) = some (.int .u64 0) := by kernel_rfl
theorem ti12 : (Try.prog.info? 12).map (fun i => (i.zero, i.size, i.bytes)) = some (some (.int .u64 0), 1, 8) := by kernel_rfl
theorem tz13 : (Try.prog.info? 13).bind (·.zero) = some (.agg ⟨[.string ⟨#[]⟩, .int .u64 0]⟩) := by kernel_rfl
theorem ti13 : (Try.prog.info? 13).map (fun i => (i.zero, i.size, i.bytes)) = some (some (.agg ⟨[.string ⟨#[]⟩, .int .u64 0]⟩), 2, 24) := by kernel_rfl
theorem pl13 : PlacesAt Try.prog 13 [(0, 1), (1, 1)] := ⟨_, Try.underlying13, by kernel_rfl⟩
theorem fa13_0 : FieldAt Try.prog 13 0 0 := fieldAt Try.underlying13 rfl rfl ts9 rfl
theorem fa13_1 : FieldAt Try.prog 13 1 1 := fieldAt Try.underlying13 rfl rfl ts12 rfl
theorem tz14 : (Try.prog.info? 14).bind (·.zero) = some (.agg ⟨[.string ⟨#[]⟩, .int .u64 0]⟩) := by kernel_rfl
theorem ti14 : (Try.prog.info? 14).map (fun i => (i.zero, i.size, i.bytes)) = some (some (.agg ⟨[.string ⟨#[]⟩, .int .u64 0]⟩), 2, 24) := by kernel_rfl
theorem pl14 : PlacesAt Try.prog 14 [(0, 1), (1, 1)] := ⟨_, Try.underlying14, by kernel_rfl⟩
theorem fa14_0 : FieldAt Try.prog 14 0 0 := fieldAt Try.underlying14 rfl rfl ts9 rfl
theorem fa14_1 : FieldAt Try.prog 14 1 1 := fieldAt Try.underlying14 rfl rfl ts12 rfl
theorem tz15 : (Try.prog.info? 15).bind (·.zero) = some (.pointer none) := by kernel_rfl
theorem ti15 : (Try.prog.info? 15).map (fun i => (i.zero, i.size, i.bytes)) = some (some (.pointer none), 1, 8) := by kernel_rfl
theorem tz16 : (Try.prog.info? 16).bind (·.zero) = some (.pointer none) := by kernel_rfl
theorem ti16 : (Try.prog.info? 16).map (fun i => (i.zero, i.size, i.bytes)) = some (some (.pointer none), 1, 8) := by kernel_rfl
theorem tz17 : (Try.prog.info? 17).bind (·.zero) = some (.pointer none) := by kernel_rfl
theorem ti17 : (Try.prog.info? 17).map (fun i => (i.zero, i.size, i.bytes)) = some (some (.pointer none), 1, 8) := by kernel_rfl
theorem tz18 : (Try.prog.info? 18).bind (·.zero) = some (.agg ⟨[.pointer none]⟩) := by kernel_rfl
theorem ti18 : (Try.prog.info? 18).map (fun i => (i.zero, i.size, i.bytes)) = some (some (.agg ⟨[.pointer none]⟩), 1, 8) := by kernel_rfl
theorem pl18 : PlacesAt Try.prog 18 [(0, 1)] := ⟨_, Try.underlying18, by kernel_rfl⟩
theorem fa18_0 : FieldAt Try.prog 18 0 0 := fieldAt Try.underlying18 rfl rfl ts17 rfl
theorem tz19 : (Try.prog.info? 19).bind (·.zero) = some (.agg ⟨[.pointer none]⟩) := by kernel_rfl
theorem ti19 : (Try.prog.info? 19).map (fun i => (i.zero, i.size, i.bytes)) = some (some (.agg ⟨[.pointer none]⟩), 1, 8) := by kernel_rfl
theorem pl19 : PlacesAt Try.prog 19 [(0, 1)] := ⟨_, Try.underlying19, by kernel_rfl⟩
theorem fa19_0 : FieldAt Try.prog 19 0 0 := fieldAt Try.underlying19 rfl rfl ts17 rfl
theorem tz20 : (Try.prog.info? 20).bind (·.zero) = some (.nilIface) := by kernel_rfl
theorem ti20 : (Try.prog.info? 20).map (fun i => (i.zero, i.size, i.bytes)) = some (some (.nilIface), 1, 16) := by kernel_rfl
theorem tz21 : (Try.prog.info? 21).bind (·.zero) = some (.int .i32 0) := by kernel_rfl
theorem ti21 : (Try.prog.info? 21).map (fun i => (i.zero, i.size, i.bytes)) = some (some (.int .i32 0), 1, 4) := by kernel_rfl
theorem tz22 : (Try.prog.info? 22).bind (·.zero) = some (.slice none 0 0) := by kernel_rfl
theorem ti22 : (Try.prog.info? 22).map (fun i => (i.zero, i.size, i.bytes)) = some (some (.slice none 0 0), 1, 24) := by kernel_rfl
theorem tz24 : (Try.prog.info? 24).bind (·.zero) = some (.pointer none) := by kernel_rfl
theorem ti24 : (Try.prog.info? 24).map (fun i => (i.zero, i.size, i.bytes)) = some (some (.pointer none), 1, 8) := by kernel_rfl
theorem tz26 : (Try.prog.info? 26).bind (·.zero) = some (.slice none 0 0) := by kernel_rfl
theorem ti26 : (Try.prog.info? 26).map (fun i => (i.zero, i.size, i.bytes)) = some (some (.slice none 0 0), 1, 24) := by kernel_rfl
theorem tz27 : (Try.prog.info? 27).bind (·.zero) = some (.agg ⟨[.int .i64 0, .int .i64 0, .int .i64 0]⟩) := by kernel_rfl
theorem ti27 : (Try.prog.info? 27).map (fun i => (i.zero, i.size, i.bytes)) = some (some (.agg ⟨[.int .i64 0, .int .i64 0, .int .i64 0]⟩), 3, 24) := by kernel_rfl
theorem pl27 : PlacesAt Try.prog 27 [(0, 1), (1, 1), (2, 1)] := ⟨_, Try.underlying27, by kernel_rfl⟩
theorem ia27 : IntsAt Try.prog 27 [.i64, .i64, .i64] := intsAt_of (by kernel_rfl)
theorem fa27_0 : FieldAt Try.prog 27 0 0 := fieldAt Try.underlying27 rfl rfl ts3 rfl
theorem fa27_1 : FieldAt Try.prog 27 1 1 := fieldAt Try.underlying27 rfl rfl ts3 rfl
theorem fa27_2 : FieldAt Try.prog 27 2 2 := fieldAt Try.underlying27 rfl rfl ts3 rfl
theorem tz28 : (Try.prog.info? 28).bind (·.zero) = some (.agg ⟨[.int .i64 0, .int .i64 0, .int .i64 0]⟩) := by kernel_rfl
theorem ti28 : (Try.prog.info? 28).map (fun i => (i.zero, i.size, i.bytes)) = some (some (.agg ⟨[.int .i64 0, .int .i64 0, .int .i64 0]⟩), 3, 24) := by kernel_rfl
theorem pl28 : PlacesAt Try.prog 28 [(0, 1), (1, 1), (2, 1)] := ⟨_, Try.underlying28, by kernel_rfl⟩
theorem ia28 : IntsAt Try.prog 28 [.i64, .i64, .i64] := intsAt_of (by kernel_rfl)
theorem fa28_0 : FieldAt Try.prog 28 0 0 := fieldAt Try.underlying28 rfl rfl ts3 rfl
theorem fa28_1 : FieldAt Try.prog 28 1 1 := fieldAt Try.underlying28 rfl rfl ts3 rfl
theorem fa28_2 : FieldAt Try.prog 28 2 2 := fieldAt Try.underlying28 rfl rfl ts3 rfl
theorem tz31 : (Try.prog.info? 31).bind (·.zero) = some (.agg ⟨[.int .i64 0, .int .i64 0]⟩) := by kernel_rfl
theorem ti31 : (Try.prog.info? 31).map (fun i => (i.zero, i.size, i.bytes)) = some (some (.agg ⟨[.int .i64 0, .int .i64 0]⟩), 2, 16) := by kernel_rfl
theorem pl31 : PlacesAt Try.prog 31 [(0, 1), (1, 1)] := ⟨_, Try.underlying31, by kernel_rfl⟩
theorem ia31 : IntsAt Try.prog 31 [.i64, .i64] := intsAt_of (by kernel_rfl)
theorem fa31_0 : FieldAt Try.prog 31 0 0 := fieldAt Try.underlying31 rfl rfl ts3 rfl
theorem fa31_1 : FieldAt Try.prog 31 1 1 := fieldAt Try.underlying31 rfl rfl ts3 rfl
theorem tz32 : (Try.prog.info? 32).bind (·.zero) = some (.agg ⟨[.int .i64 0, .int .i64 0]⟩) := by kernel_rfl
theorem ti32 : (Try.prog.info? 32).map (fun i => (i.zero, i.size, i.bytes)) = some (some (.agg ⟨[.int .i64 0, .int .i64 0]⟩), 2, 16) := by kernel_rfl
theorem pl32 : PlacesAt Try.prog 32 [(0, 1), (1, 1)] := ⟨_, Try.underlying32, by kernel_rfl⟩
theorem ia32 : IntsAt Try.prog 32 [.i64, .i64] := intsAt_of (by kernel_rfl)
theorem fa32_0 : FieldAt Try.prog 32 0 0 := fieldAt Try.underlying32 rfl rfl ts3 rfl
theorem fa32_1 : FieldAt Try.prog 32 1 1 := fieldAt Try.underlying32 rfl rfl ts3 rfl
theorem tz39 : (Try.prog.info? 39).bind (·.zero) = some (.pointer none) := by kernel_rfl
theorem ti39 : (Try.prog.info? 39).map (fun i => (i.zero, i.size, i.bytes)) = some (some (.pointer none), 1, 8) := by kernel_rfl
theorem tz42 : (Try.prog.info? 42).bind (·.zero) = some (.slice none 0 0) := by kernel_rfl
theorem ti42 : (Try.prog.info? 42).map (fun i => (i.zero, i.size, i.bytes)) = some (some (.slice none 0 0), 1, 24) := by kernel_rfl
theorem tz43 : (Try.prog.info? 43).bind (·.zero) = some (.slice none 0 0) := by kernel_rfl
theorem ti43 : (Try.prog.info? 43).map (fun i => (i.zero, i.size, i.bytes)) = some (some (.slice none 0 0), 1, 24) := by kernel_rfl
theorem tz48 : (Try.prog.info? 48).bind (·.zero) = some (.agg ⟨[.int .i64 0, .int .i64 0, .int .i64 0, .int .i64 0]⟩) := by kernel_rfl
theorem ti48 : (Try.prog.info? 48).map (fun i => (i.zero, i.size, i.bytes)) = some (some (.agg ⟨[.int .i64 0, .int .i64 0, .int .i64 0, .int .i64 0]⟩), 4, 32) := by kernel_rfl
theorem pl48 : PlacesAt Try.prog 48 [(0, 1), (1, 1), (2, 1), (3, 1)] := ⟨_, Try.underlying48, by kernel_rfl⟩
theorem ia48 : IntsAt Try.prog 48 [.i64, .i64, .i64, .i64] := intsAt_of (by kernel_rfl)
theorem fa48_0 : FieldAt Try.prog 48 0 0 := fieldAt Try.underlying48 rfl rfl ts3 rfl
theorem fa48_1 : FieldAt Try.prog 48 1 1 := fieldAt Try.underlying48 rfl rfl ts3 rfl
theorem fa48_2 : FieldAt Try.prog 48 2 2 := fieldAt Try.underlying48 rfl rfl ts3 rfl
theorem fa48_3 : FieldAt Try.prog 48 3 3 := fieldAt Try.underlying48 rfl rfl ts3 rfl
theorem tz49 : (Try.prog.info? 49).bind (·.zero) = some (.agg ⟨[.int .i64 0, .int .i64 0, .int .i64 0, .int .i64 0]⟩) := by kernel_rfl
theorem ti49 : (Try.prog.info? 49).map (fun i => (i.zero, i.size, i.bytes)) = some (some (.agg ⟨[.int .i64 0, .int .i64 0, .int .i64 0, .int .i64 0]⟩), 4, 32) := by kernel_rfl
theorem pl49 : PlacesAt Try.prog 49 [(0, 1), (1, 1), (2, 1), (3, 1)] := ⟨_, Try.underlying49, by kernel_rfl⟩
theorem ia49 : IntsAt Try.prog 49 [.i64, .i64, .i64, .i64] := intsAt_of (by kernel_rfl)
theorem fa49_0 : FieldAt Try.prog 49 0 0 := fieldAt Try.underlying49 rfl rfl ts3 rfl
theorem fa49_1 : FieldAt Try.prog 49 1 1 := fieldAt Try.underlying49 rfl rfl ts3 rfl
theorem fa49_2 : FieldAt Try.prog 49 2 2 := fieldAt Try.underlying49 rfl rfl ts3 rfl
theorem fa49_3 : FieldAt Try.prog 49 3 3 := fieldAt Try.underlying49 rfl rfl ts3 rfl
theorem tz50 : (Try.prog.info? 50).bind (·.zero) = some (.slice none 0 0) := by kernel_rfl
theorem ti50 : (Try.prog.info? 50).map (fun i => (i.zero, i.size, i.bytes)) = some (some (.slice none 0 0), 1, 24) := by kernel_rfl
theorem tz52 : (Try.prog.info? 52).bind (·.zero) = some (.agg ⟨[.int .i64 0, .int .i64 0, .int .i64 0, .int .i64 0, .int .i64 0, .int .i64 0, .int .i64 0, .int .i64 0, .int .i64 0, .int .i64 0, .int .i64 0, .int .i64 0, .int .i64 0, .int .i64 0]⟩) := by kernel_rfl
theorem ti52 : (Try.prog.info? 52).map (fun i => (i.zero, i.size, i.bytes)) = some (some (.agg ⟨[.int .i64 0, .int .i64 0, .int .i64 0, .int .i64 0, .int .i64 0, .int .i64 0, .int .i64 0, .int .i64 0, .int .i64 0, .int .i64 0, .int .i64 0, .int .i64 0, .int .i64 0, .int .i64 0]⟩), 14, 112) := by kernel_rfl
theorem pl52 : PlacesAt Try.prog 52 [(0, 4), (4, 1), (5, 1), (6, 1), (7, 1), (8, 1), (9, 1), (10, 1), (11, 1), (12, 1), (13, 1)] := ⟨_, Try.underlying52, by kernel_rfl⟩
theorem fa52_0 : FieldAt Try.prog 52 0 0 := fieldAt Try.underlying52 rfl rfl ts49 rfl
theorem fa52_1 : FieldAt Try.prog 52 1 4 := fieldAt Try.underlying52 rfl rfl ts3 rfl
theorem fa52_2 : FieldAt Try.prog 52 2 5 := fieldAt Try.underlying52 rfl rfl ts3 rfl
theorem fa52_3 : FieldAt Try.prog 52 3 6 := fieldAt Try.underlying52 rfl rfl ts3 rfl
theorem fa52_4 : FieldAt Try.prog 52 4 7 := fieldAt Try.underlying52 rfl rfl ts3 rfl
theorem fa52_5 : FieldAt Try.prog 52 5 8 := fieldAt Try.underlying52 rfl rfl ts3 rfl
theorem fa52_6 : FieldAt Try.prog 52 6 9 := fieldAt Try.underlying52 rfl rfl ts3 rfl
theorem fa52_7 : FieldAt Try.prog 52 7 10 := fieldAt Try.underlying52 rfl rfl ts3 rfl
theorem fa52_8 : FieldAt Try.prog 52 8 11 := fieldAt Try.underlying52 rfl rfl ts3 rfl
theorem fa52_9 : FieldAt Try.prog 52 9 12 := fieldAt Try.underlying52 rfl rfl ts3 rfl
theorem fa52_10 : FieldAt Try.prog 52 10 13 := fieldAt Try.underlying52 rfl rfl ts3 rfl
theorem tz53 : (Try.prog.info? 53).bind (·.zero) = some (.agg ⟨[.int .i64 0, .int .i64 0, .int .i64 0, .int .i64 0, .int .i64 0, .int .i64 0, .int .i64 0, .int .i64 0, .int .i64 0, .int .i64 0, .int .i64 0, .int .i64 0, .int .i64 0, .int .i64 0]⟩) := by kernel_rfl
theorem ti53 : (Try.prog.info? 53).map (fun i => (i.zero, i.size, i.bytes)) = some (some (.agg ⟨[.int .i64 0, .int .i64 0, .int .i64 0, .int .i64 0, .int .i64 0, .int .i64 0, .int .i64 0, .int .i64 0, .int .i64 0, .int .i64 0, .int .i64 0, .int .i64 0, .int .i64 0, .int .i64 0]⟩), 14, 112) := by kernel_rfl
theorem pl53 : PlacesAt Try.prog 53 [(0, 4), (4, 1), (5, 1), (6, 1), (7, 1), (8, 1), (9, 1), (10, 1), (11, 1), (12, 1), (13, 1)] := ⟨_, Try.underlying53, by kernel_rfl⟩
theorem fa53_0 : FieldAt Try.prog 53 0 0 := fieldAt Try.underlying53 rfl rfl ts49 rfl
theorem fa53_1 : FieldAt Try.prog 53 1 4 := fieldAt Try.underlying53 rfl rfl ts3 rfl
theorem fa53_2 : FieldAt Try.prog 53 2 5 := fieldAt Try.underlying53 rfl rfl ts3 rfl
theorem fa53_3 : FieldAt Try.prog 53 3 6 := fieldAt Try.underlying53 rfl rfl ts3 rfl
theorem fa53_4 : FieldAt Try.prog 53 4 7 := fieldAt Try.underlying53 rfl rfl ts3 rfl
theorem fa53_5 : FieldAt Try.prog 53 5 8 := fieldAt Try.underlying53 rfl rfl ts3 rfl
theorem fa53_6 : FieldAt Try.prog 53 6 9 := fieldAt Try.underlying53 rfl rfl ts3 rfl
theorem fa53_7 : FieldAt Try.prog 53 7 10 := fieldAt Try.underlying53 rfl rfl ts3 rfl
theorem fa53_8 : FieldAt Try.prog 53 8 11 := fieldAt Try.underlying53 rfl rfl ts3 rfl
theorem fa53_9 : FieldAt Try.prog 53 9 12 := fieldAt Try.underlying53 rfl rfl ts3 rfl
theorem fa53_10 : FieldAt Try.prog 53 10 13 := fieldAt Try.underlying53 rfl rfl ts3 rfl
theorem tz54 : (Try.prog.info? 54).bind (·.zero) = some (.int .i64 0) := by kernel_rfl
theorem ti54 : (Try.prog.info? 54).map (fun i => (i.zero, i.size, i.bytes)) = some (some (.int .i64 0), 1, 8) := by kernel_rfl
theorem tz57 : (Try.prog.info? 57).bind (·.zero) = some (.slice none 0 0) := by kernel_rfl
theorem ti57 : (Try.prog.info? 57).map (fun i => (i.zero, i.size, i.bytes)) = some (some (.slice none 0 0), 1, 24) := by kernel_rfl
theorem tz65 : (Try.prog.info? 65).bind (·.zero) = some (.map none) := by kernel_rfl
theorem ti65 : (Try.prog.info? 65).map (fun i => (i.zero, i.size, i.bytes)) = some (some (.map none), 1, 8) := by kernel_rfl
theorem tz67 : (Try.prog.info? 67).bind (·.zero) = some (.agg ⟨List.replicate 256 (.int .u8 0)⟩) := by kernel_rfl
theorem ti67 : (Try.prog.info? 67).map (fun i => (i.zero, i.size, i.bytes)) = some (some (.agg ⟨List.replicate 256 (.int .u8 0)⟩), 256, 256) := by kernel_rfl
theorem tz70 : (Try.prog.info? 70).bind (·.zero) = some (.agg ⟨List.replicate 32 (.int .u8 0)⟩) := by kernel_rfl
theorem ti70 : (Try.prog.info? 70).map (fun i => (i.zero, i.size, i.bytes)) = some (some (.agg ⟨List.replicate 32 (.int .u8 0)⟩), 32, 32) := by kernel_rfl
theorem tz71 : (Try.prog.info? 71).bind (·.zero) = some (.agg ⟨List.replicate 32 (.int .u8 0) ++ [.int .i64 0, .slice none 0 0, .int .i64 0]⟩) := by kernel_rfl
theorem ti71 : (Try.prog.info? 71).map (fun i => (i.zero, i.size, i.bytes)) = some (some (.agg ⟨List.replicate 32 (.int .u8 0) ++ [.int .i64 0, .slice none 0 0, .int .i64 0]⟩), 35, 72) := by kernel_rfl
theorem pl71 : PlacesAt Try.prog 71 [(0, 32), (32, 1), (33, 1), (34, 1)] := ⟨_, Try.underlying71, by kernel_rfl⟩
theorem fa71_0 : FieldAt Try.prog 71 0 0 := fieldAt Try.underlying71 rfl rfl ts70 rfl
theorem fa71_1 : FieldAt Try.prog 71 1 32 := fieldAt Try.underlying71 rfl rfl ts3 rfl
theorem fa71_2 : FieldAt Try.prog 71 2 33 := fieldAt Try.underlying71 rfl rfl ts57 rfl
theorem fa71_3 : FieldAt Try.prog 71 3 34 := fieldAt Try.underlying71 rfl rfl ts3 rfl
theorem tz72 : (Try.prog.info? 72).bind (·.zero) = some (.agg ⟨List.replicate 32 (.int .u8 0) ++ [.int .i64 0, .slice none 0 0, .int .i64 0]⟩) := by kernel_rfl
theorem ti72 : (Try.prog.info? 72).map (fun i => (i.zero, i.size, i.bytes)) = some (some (.agg ⟨List.replicate 32 (.int .u8 0) ++ [.int .i64 0, .slice none 0 0, .int .i64 0]⟩), 35, 72) := by kernel_rfl
theorem pl72 : PlacesAt Try.prog 72 [(0, 32), (32, 1), (33, 1), (34, 1)] := ⟨_, Try.underlying72, by kernel_rfl⟩
theorem fa72_0 : FieldAt Try.prog 72 0 0 := fieldAt Try.underlying72 rfl rfl ts70 rfl
theorem fa72_1 : FieldAt Try.prog 72 1 32 := fieldAt Try.underlying72 rfl rfl ts3 rfl
theorem fa72_2 : FieldAt Try.prog 72 2 33 := fieldAt Try.underlying72 rfl rfl ts57 rfl
theorem fa72_3 : FieldAt Try.prog 72 3 34 := fieldAt Try.underlying72 rfl rfl ts3 rfl
theorem tz87 : (Try.prog.info? 87).bind (·.zero) = some (.slice none 0 0) := by kernel_rfl
theorem ti87 : (Try.prog.info? 87).map (fun i => (i.zero, i.size, i.bytes)) = some (some (.slice none 0 0), 1, 24) := by kernel_rfl
theorem tz89 : (Try.prog.info? 89).bind (·.zero) = some (.pointer none) := by kernel_rfl
theorem ti89 : (Try.prog.info? 89).map (fun i => (i.zero, i.size, i.bytes)) = some (some (.pointer none), 1, 8) := by kernel_rfl
theorem tz90 : (Try.prog.info? 90).bind (·.zero) = some (.slice none 0 0) := by kernel_rfl
theorem ti90 : (Try.prog.info? 90).map (fun i => (i.zero, i.size, i.bytes)) = some (some (.slice none 0 0), 1, 24) := by kernel_rfl
theorem tz96 : (Try.prog.info? 96).bind (·.zero) = some (.agg ⟨[.string ⟨#[]⟩, .int .i64 0, .bool false, .bool false]⟩) := by kernel_rfl
theorem ti96 : (Try.prog.info? 96).map (fun i => (i.zero, i.size, i.bytes)) = some (some (.agg ⟨[.string ⟨#[]⟩, .int .i64 0, .bool false, .bool false]⟩), 4, 32) := by kernel_rfl
theorem pl96 : PlacesAt Try.prog 96 [(0, 1), (1, 1), (2, 1), (3, 1)] := ⟨_, Try.underlying96, by kernel_rfl⟩
theorem fa96_0 : FieldAt Try.prog 96 0 0 := fieldAt Try.underlying96 rfl rfl ts9 rfl
theorem fa96_1 : FieldAt Try.prog 96 1 1 := fieldAt Try.underlying96 rfl rfl ts3 rfl
theorem fa96_2 : FieldAt Try.prog 96 2 2 := fieldAt Try.underlying96 rfl rfl ts4 rfl
theorem fa96_3 : FieldAt Try.prog 96 3 3 := fieldAt Try.underlying96 rfl rfl ts4 rfl
theorem tz97 : (Try.prog.info? 97).bind (·.zero) = some (.agg ⟨[.string ⟨#[]⟩, .int .i64 0, .bool false, .bool false]⟩) := by kernel_rfl
theorem ti97 : (Try.prog.info? 97).map (fun i => (i.zero, i.size, i.bytes)) = some (some (.agg ⟨[.string ⟨#[]⟩, .int .i64 0, .bool false, .bool false]⟩), 4, 32) := by kernel_rfl
theorem pl97 : PlacesAt Try.prog 97 [(0, 1), (1, 1), (2, 1), (3, 1)] := ⟨_, Try.underlying97, by kernel_rfl⟩
theorem fa97_0 : FieldAt Try.prog 97 0 0 := fieldAt Try.underlying97 rfl rfl ts9 rfl
theorem fa97_1 : FieldAt Try.prog 97 1 1 := fieldAt Try.underlying97 rfl rfl ts3 rfl
theorem fa97_2 : FieldAt Try.prog 97 2 2 := fieldAt Try.underlying97 rfl rfl ts4 rfl
theorem fa97_3 : FieldAt Try.prog 97 3 3 := fieldAt Try.underlying97 rfl rfl ts4 rfl
theorem tz106 : (Try.prog.info? 106).bind (·.zero) = some (.agg ⟨[.int .i64 0, .string ⟨#[]⟩, .int .i64 0, .bool false, .bool false]⟩) := by kernel_rfl
theorem ti106 : (Try.prog.info? 106).map (fun i => (i.zero, i.size, i.bytes)) = some (some (.agg ⟨[.int .i64 0, .string ⟨#[]⟩, .int .i64 0, .bool false, .bool false]⟩), 5, 40) := by kernel_rfl
theorem pl106 : PlacesAt Try.prog 106 [(0, 1), (1, 4)] := ⟨_, Try.underlying106, by kernel_rfl⟩
theorem fa106_0 : FieldAt Try.prog 106 0 0 := fieldAt Try.underlying106 rfl rfl ts3 rfl
theorem fa106_1 : FieldAt Try.prog 106 1 1 := fieldAt Try.underlying106 rfl rfl ts97 rfl
theorem tz107 : (Try.prog.info? 107).bind (·.zero) = some (.agg ⟨[.int .i64 0, .string ⟨#[]⟩, .int .i64 0, .bool false, .bool false]⟩) := by kernel_rfl
theorem ti107 : (Try.prog.info? 107).map (fun i => (i.zero, i.size, i.bytes)) = some (some (.agg ⟨[.int .i64 0, .string ⟨#[]⟩, .int .i64 0, .bool false, .bool false]⟩), 5, 40) := by kernel_rfl
theorem pl107 : PlacesAt Try.prog 107 [(0, 1), (1, 4)] := ⟨_, Try.underlying107, by kernel_rfl⟩
theorem fa107_0 : FieldAt Try.prog 107 0 0 := fieldAt Try.underlying107 rfl rfl ts3 rfl
theorem fa107_1 : FieldAt Try.prog 107 1 1 := fieldAt Try.underlying107 rfl rfl ts97 rfl
theorem tz117 : (Try.prog.info? 117).bind (·.zero) = some (.pointer none) := by kernel_rfl
theorem ti117 : (Try.prog.info? 117).map (fun i => (i.zero, i.size, i.bytes)) = some (some (.pointer none), 1, 8) := by kernel_rfl
theorem tz120 : (Try.prog.info? 120).bind (·.zero) = some (.slice none 0 0) := by kernel_rfl
theorem ti120 : (Try.prog.info? 120).map (fun i => (i.zero, i.size, i.bytes)) = some (some (.slice none 0 0), 1, 24) := by kernel_rfl
theorem tz123 : (Try.prog.info? 123).bind (·.zero) = some (.slice none 0 0) := by kernel_rfl
theorem ti123 : (Try.prog.info? 123).map (fun i => (i.zero, i.size, i.bytes)) = some (some (.slice none 0 0), 1, 24) := by kernel_rfl
theorem tz124 : (Try.prog.info? 124).bind (·.zero) = some (.agg ⟨[.int .i64 0, .int .i64 0, .string ⟨#[]⟩] ++ List.replicate 32 (.int .u8 0) ++ [.string ⟨#[]⟩] ++ List.replicate 32 (.int .u8 0) ++ List.replicate 32 (.int .u8 0)⟩) := by kernel_rfl
theorem ti124 : (Try.prog.info? 124).map (fun i => (i.zero, i.size, i.bytes)) = some (some (.agg ⟨[.int .i64 0, .int .i64 0, .string ⟨#[]⟩] ++ List.replicate 32 (.int .u8 0) ++ [.string ⟨#[]⟩] ++ List.replicate 32 (.int .u8 0) ++ List.replicate 32 (.int .u8 0)⟩), 100, 144) := by kernel_rfl
theorem pl124 : PlacesAt Try.prog 124 [(0, 1), (1, 1), (2, 1), (3, 32), (35, 1), (36, 32), (68, 32)] := ⟨_, Try.underlying124, by kernel_rfl⟩
theorem fa124_0 : FieldAt Try.prog 124 0 0 := fieldAt Try.underlying124 rfl rfl ts3 rfl
theorem fa124_1 : FieldAt Try.prog 124 1 1 := fieldAt Try.underlying124 rfl rfl ts3 rfl
theorem fa124_2 : FieldAt Try.prog 124 2 2 := fieldAt Try.underlying124 rfl rfl ts9 rfl
theorem fa124_3 : FieldAt Try.prog 124 3 3 := fieldAt Try.underlying124 rfl rfl ts70 rfl
theorem fa124_4 : FieldAt Try.prog 124 4 35 := fieldAt Try.underlying124 rfl rfl ts9 rfl
theorem fa124_5 : FieldAt Try.prog 124 5 36 := fieldAt Try.underlying124 rfl rfl ts70 rfl
theorem fa124_6 : FieldAt Try.prog 124 6 68 := fieldAt Try.underlying124 rfl rfl ts70 rfl
theorem tz125 : (Try.prog.info? 125).bind (·.zero) = some (.agg ⟨[.int .i64 0, .int .i64 0, .string ⟨#[]⟩] ++ List.replicate 32 (.int .u8 0) ++ [.string ⟨#[]⟩] ++ List.replicate 32 (.int .u8 0) ++ List.replicate 32 (.int .u8 0)⟩) := by kernel_rfl
theorem ti125 : (Try.prog.info? 125).map (fun i => (i.zero, i.size, i.bytes)) = some (some (.agg ⟨[.int .i64 0, .int .i64 0, .string ⟨#[]⟩] ++ List.replicate 32 (.int .u8 0) ++ [.string ⟨#[]⟩] ++ List.replicate 32 (.int .u8 0) ++ List.replicate 32 (.int .u8 0)⟩), 100, 144) := by kernel_rfl
theorem pl125 : PlacesAt Try.prog 125 [(0, 1), (1, 1), (2, 1), (3, 32), (35, 1), (36, 32), (68, 32)] := ⟨_, Try.underlying125, by kernel_rfl⟩
theorem fa125_0 : FieldAt Try.prog 125 0 0 := fieldAt Try.underlying125 rfl rfl ts3 rfl
theorem fa125_1 : FieldAt Try.prog 125 1 1 := fieldAt Try.underlying125 rfl rfl ts3 rfl
theorem fa125_2 : FieldAt Try.prog 125 2 2 := fieldAt Try.underlying125 rfl rfl ts9 rfl
theorem fa125_3 : FieldAt Try.prog 125 3 3 := fieldAt Try.underlying125 rfl rfl ts70 rfl
theorem fa125_4 : FieldAt Try.prog 125 4 35 := fieldAt Try.underlying125 rfl rfl ts9 rfl
theorem fa125_5 : FieldAt Try.prog 125 5 36 := fieldAt Try.underlying125 rfl rfl ts70 rfl
theorem fa125_6 : FieldAt Try.prog 125 6 68 := fieldAt Try.underlying125 rfl rfl ts70 rfl
theorem tz138 : (Try.prog.info? 138).bind (·.zero) = some (.pointer none) := by kernel_rfl
theorem ti138 : (Try.prog.info? 138).map (fun i => (i.zero, i.size, i.bytes)) = some (some (.pointer none), 1, 8) := by kernel_rfl
theorem tz141 : (Try.prog.info? 141).bind (·.zero) = some (.slice none 0 0) := by kernel_rfl
theorem ti141 : (Try.prog.info? 141).map (fun i => (i.zero, i.size, i.bytes)) = some (some (.slice none 0 0), 1, 24) := by kernel_rfl
theorem tz142 : (Try.prog.info? 142).bind (·.zero) = some (.agg ⟨[.slice none 0 0, .int .i64 0]⟩) := by kernel_rfl
theorem ti142 : (Try.prog.info? 142).map (fun i => (i.zero, i.size, i.bytes)) = some (some (.agg ⟨[.slice none 0 0, .int .i64 0]⟩), 2, 32) := by kernel_rfl
theorem pl142 : PlacesAt Try.prog 142 [(0, 1), (1, 1)] := ⟨_, Try.underlying142, by kernel_rfl⟩
theorem fa142_0 : FieldAt Try.prog 142 0 0 := fieldAt Try.underlying142 rfl rfl ts141 rfl
theorem fa142_1 : FieldAt Try.prog 142 1 1 := fieldAt Try.underlying142 rfl rfl ts3 rfl
theorem tz143 : (Try.prog.info? 143).bind (·.zero) = some (.agg ⟨[.slice none 0 0, .int .i64 0]⟩) := by kernel_rfl
theorem ti143 : (Try.prog.info? 143).map (fun i => (i.zero, i.size, i.bytes)) = some (some (.agg ⟨[.slice none 0 0, .int .i64 0]⟩), 2, 32) := by kernel_rfl
theorem pl143 : PlacesAt Try.prog 143 [(0, 1), (1, 1)] := ⟨_, Try.underlying143, by kernel_rfl⟩
theorem fa143_0 : FieldAt Try.prog 143 0 0 := fieldAt Try.underlying143 rfl rfl ts141 rfl
theorem fa143_1 : FieldAt Try.prog 143 1 1 := fieldAt Try.underlying143 rfl rfl ts3 rfl
theorem tz144 : (Try.prog.info? 144).bind (·.zero) = some (.agg ⟨[.int .i64 0, .int .i64 0, .int .i64 0]⟩) := by kernel_rfl
theorem ti144 : (Try.prog.info? 144).map (fun i => (i.zero, i.size, i.bytes)) = some (some (.agg ⟨[.int .i64 0, .int .i64 0, .int .i64 0]⟩), 3, 24) := by kernel_rfl
theorem pl144 : PlacesAt Try.prog 144 [(0, 1), (1, 1), (2, 1)] := ⟨_, Try.underlying144, by kernel_rfl⟩
theorem ia144 : IntsAt Try.prog 144 [.i64, .i64, .i64] := intsAt_of (by kernel_rfl)
theorem fa144_0 : FieldAt Try.prog 144 0 0 := fieldAt Try.underlying144 rfl rfl ts3 rfl
theorem fa144_1 : FieldAt Try.prog 144 1 1 := fieldAt Try.underlying144 rfl rfl ts3 rfl
theorem fa144_2 : FieldAt Try.prog 144 2 2 := fieldAt Try.underlying144 rfl rfl ts3 rfl
theorem tz145 : (Try.prog.info? 145).bind (·.zero) = some (.agg ⟨[.int .i64 0, .int .i64 0, .int .i64 0]⟩) := by kernel_rfl
theorem ti145 : (Try.prog.info? 145).map (fun i => (i.zero, i.size, i.bytes)) = some (some (.agg ⟨[.int .i64 0, .int .i64 0, .int .i64 0]⟩), 3, 24) := by kernel_rfl
theorem pl145 : PlacesAt Try.prog 145 [(0, 1), (1, 1), (2, 1)] := ⟨_, Try.underlying145, by kernel_rfl⟩
theorem ia145 : IntsAt Try.prog 145 [.i64, .i64, .i64] := intsAt_of (by kernel_rfl)
theorem fa145_0 : FieldAt Try.prog 145 0 0 := fieldAt Try.underlying145 rfl rfl ts3 rfl
theorem fa145_1 : FieldAt Try.prog 145 1 1 := fieldAt Try.underlying145 rfl rfl ts3 rfl
theorem fa145_2 : FieldAt Try.prog 145 2 2 := fieldAt Try.underlying145 rfl rfl ts3 rfl
theorem tz147 : (Try.prog.info? 147).bind (·.zero) = some (.slice none 0 0) := by kernel_rfl
theorem ti147 : (Try.prog.info? 147).map (fun i => (i.zero, i.size, i.bytes)) = some (some (.slice none 0 0), 1, 24) := by kernel_rfl
theorem tz148 : (Try.prog.info? 148).bind (·.zero) = some (.agg ⟨[.slice none 0 0, .int .i64 0]⟩) := by kernel_rfl
theorem ti148 : (Try.prog.info? 148).map (fun i => (i.zero, i.size, i.bytes)) = some (some (.agg ⟨[.slice none 0 0, .int .i64 0]⟩), 2, 32) := by kernel_rfl
theorem pl148 : PlacesAt Try.prog 148 [(0, 1), (1, 1)] := ⟨_, Try.underlying148, by kernel_rfl⟩
theorem fa148_0 : FieldAt Try.prog 148 0 0 := fieldAt Try.underlying148 rfl rfl ts147 rfl
theorem fa148_1 : FieldAt Try.prog 148 1 1 := fieldAt Try.underlying148 rfl rfl ts3 rfl
theorem tz149 : (Try.prog.info? 149).bind (·.zero) = some (.agg ⟨[.slice none 0 0, .int .i64 0]⟩) := by kernel_rfl
theorem ti149 : (Try.prog.info? 149).map (fun i => (i.zero, i.size, i.bytes)) = some (some (.agg ⟨[.slice none 0 0, .int .i64 0]⟩), 2, 32) := by kernel_rfl
theorem pl149 : PlacesAt Try.prog 149 [(0, 1), (1, 1)] := ⟨_, Try.underlying149, by kernel_rfl⟩
theorem fa149_0 : FieldAt Try.prog 149 0 0 := fieldAt Try.underlying149 rfl rfl ts147 rfl
theorem fa149_1 : FieldAt Try.prog 149 1 1 := fieldAt Try.underlying149 rfl rfl ts3 rfl
theorem tz150 : (Try.prog.info? 150).bind (·.zero) = some (.agg ⟨[.int .i64 0, .int .i64 0, .string ⟨#[]⟩]⟩) := by kernel_rfl
theorem ti150 : (Try.prog.info? 150).map (fun i => (i.zero, i.size, i.bytes)) = some (some (.agg ⟨[.int .i64 0, .int .i64 0, .string ⟨#[]⟩]⟩), 3, 32) := by kernel_rfl
theorem pl150 : PlacesAt Try.prog 150 [(0, 1), (1, 1), (2, 1)] := ⟨_, Try.underlying150, by kernel_rfl⟩
theorem fa150_0 : FieldAt Try.prog 150 0 0 := fieldAt Try.underlying150 rfl rfl ts3 rfl
theorem fa150_1 : FieldAt Try.prog 150 1 1 := fieldAt Try.underlying150 rfl rfl ts3 rfl
theorem fa150_2 : FieldAt Try.prog 150 2 2 := fieldAt Try.underlying150 rfl rfl ts9 rfl
theorem tz151 : (Try.prog.info? 151).bind (·.zero) = some (.agg ⟨[.int .i64 0, .int .i64 0, .string ⟨#[]⟩]⟩) := by kernel_rfl
theorem ti151 : (Try.prog.info? 151).map (fun i => (i.zero, i.size, i.bytes)) = some (some (.agg ⟨[.int .i64 0, .int .i64 0, .string ⟨#[]⟩]⟩), 3, 32) := by kernel_rfl
theorem pl151 : PlacesAt Try.prog 151 [(0, 1), (1, 1), (2, 1)] := ⟨_, Try.underlying151, by kernel_rfl⟩
theorem fa151_0 : FieldAt Try.prog 151 0 0 := fieldAt Try.underlying151 rfl rfl ts3 rfl
theorem fa151_1 : FieldAt Try.prog 151 1 1 := fieldAt Try.underlying151 rfl rfl ts3 rfl
theorem fa151_2 : FieldAt Try.prog 151 2 2 := fieldAt Try.underlying151 rfl rfl ts9 rfl
theorem tz154 : (Try.prog.info? 154).bind (·.zero) = some (.slice none 0 0) := by kernel_rfl
theorem ti154 : (Try.prog.info? 154).map (fun i => (i.zero, i.size, i.bytes)) = some (some (.slice none 0 0), 1, 24) := by kernel_rfl
theorem tz156 : (Try.prog.info? 156).bind (·.zero) = some (.agg ⟨[.int .i64 0, .int .i64 0]⟩) := by kernel_rfl
theorem ti156 : (Try.prog.info? 156).map (fun i => (i.zero, i.size, i.bytes)) = some (some (.agg ⟨[.int .i64 0, .int .i64 0]⟩), 2, 16) := by kernel_rfl
theorem pl156 : PlacesAt Try.prog 156 [(0, 1), (1, 1)] := ⟨_, Try.underlying156, by kernel_rfl⟩
theorem ia156 : IntsAt Try.prog 156 [.i64, .i64] := intsAt_of (by kernel_rfl)
theorem fa156_0 : FieldAt Try.prog 156 0 0 := fieldAt Try.underlying156 rfl rfl ts3 rfl
theorem fa156_1 : FieldAt Try.prog 156 1 1 := fieldAt Try.underlying156 rfl rfl ts3 rfl
theorem tz157 : (Try.prog.info? 157).bind (·.zero) = some (.agg ⟨[.int .i64 0, .int .i64 0]⟩) := by kernel_rfl
theorem ti157 : (Try.prog.info? 157).map (fun i => (i.zero, i.size, i.bytes)) = some (some (.agg ⟨[.int .i64 0, .int .i64 0]⟩), 2, 16) := by kernel_rfl
theorem pl157 : PlacesAt Try.prog 157 [(0, 1), (1, 1)] := ⟨_, Try.underlying157, by kernel_rfl⟩
theorem ia157 : IntsAt Try.prog 157 [.i64, .i64] := intsAt_of (by kernel_rfl)
theorem fa157_0 : FieldAt Try.prog 157 0 0 := fieldAt Try.underlying157 rfl rfl ts3 rfl
theorem fa157_1 : FieldAt Try.prog 157 1 1 := fieldAt Try.underlying157 rfl rfl ts3 rfl
theorem tz165 : (Try.prog.info? 165).bind (·.zero) = some (.int .u64 0) := by kernel_rfl
theorem ti165 : (Try.prog.info? 165).map (fun i => (i.zero, i.size, i.bytes)) = some (some (.int .u64 0), 1, 8) := by kernel_rfl
theorem tz170 : (Try.prog.info? 170).bind (·.zero) = some (.pointer none) := by kernel_rfl
theorem ti170 : (Try.prog.info? 170).map (fun i => (i.zero, i.size, i.bytes)) = some (some (.pointer none), 1, 8) := by kernel_rfl
theorem tz179 : (Try.prog.info? 179).bind (·.zero) = some (.agg ⟨[.slice none 0 0, .map none]⟩) := by kernel_rfl
theorem ti179 : (Try.prog.info? 179).map (fun i => (i.zero, i.size, i.bytes)) = some (some (.agg ⟨[.slice none 0 0, .map none]⟩), 2, 32) := by kernel_rfl
theorem pl179 : PlacesAt Try.prog 179 [(0, 1), (1, 1)] := ⟨_, Try.underlying179, by kernel_rfl⟩
theorem fa179_0 : FieldAt Try.prog 179 0 0 := fieldAt Try.underlying179 rfl rfl ts90 rfl
theorem fa179_1 : FieldAt Try.prog 179 1 1 := fieldAt Try.underlying179 rfl rfl ts65 rfl
theorem tz180 : (Try.prog.info? 180).bind (·.zero) = some (.agg ⟨[.slice none 0 0, .map none]⟩) := by kernel_rfl
theorem ti180 : (Try.prog.info? 180).map (fun i => (i.zero, i.size, i.bytes)) = some (some (.agg ⟨[.slice none 0 0, .map none]⟩), 2, 32) := by kernel_rfl
theorem pl180 : PlacesAt Try.prog 180 [(0, 1), (1, 1)] := ⟨_, Try.underlying180, by kernel_rfl⟩
theorem fa180_0 : FieldAt Try.prog 180 0 0 := fieldAt Try.underlying180 rfl rfl ts90 rfl
theorem fa180_1 : FieldAt Try.prog 180 1 1 := fieldAt Try.underlying180 rfl rfl ts65 rfl
theorem tz182 : (Try.prog.info? 182).bind (·.zero) = some (.agg ⟨[.int .i64 0, .int .i64 0, .int .i64 0, .int .i64 0, .int .i64 0]⟩) := by kernel_rfl
theorem ti182 : (Try.prog.info? 182).map (fun i => (i.zero, i.size, i.bytes)) = some (some (.agg ⟨[.int .i64 0, .int .i64 0, .int .i64 0, .int .i64 0, .int .i64 0]⟩), 5, 40) := by kernel_rfl
theorem pl182 : PlacesAt Try.prog 182 [(0, 1), (1, 1), (2, 1), (3, 1), (4, 1)] := ⟨_, Try.underlying182, by kernel_rfl⟩
theorem ia182 : IntsAt Try.prog 182 [.i64, .i64, .i64, .i64, .i64] := intsAt_of (by kernel_rfl)
theorem fa182_0 : FieldAt Try.prog 182 0 0 := fieldAt Try.underlying182 rfl rfl ts3 rfl
theorem fa182_1 : FieldAt Try.prog 182 1 1 := fieldAt Try.underlying182 rfl rfl ts3 rfl
theorem fa182_2 : FieldAt Try.prog 182 2 2 := fieldAt Try.underlying182 rfl rfl ts3 rfl
theorem fa182_3 : FieldAt Try.prog 182 3 3 := fieldAt Try.underlying182 rfl rfl ts3 rfl
theorem fa182_4 : FieldAt Try.prog 182 4 4 := fieldAt Try.underlying182 rfl rfl ts3 rfl
theorem tz183 : (Try.prog.info? 183).bind (·.zero) = some (.agg ⟨[.int .i64 0, .int .i64 0, .int .i64 0, .int .i64 0, .int .i64 0]⟩) := by kernel_rfl
theorem ti183 : (Try.prog.info? 183).map (fun i => (i.zero, i.size, i.bytes)) = some (some (.agg ⟨[.int .i64 0, .int .i64 0, .int .i64 0, .int .i64 0, .int .i64 0]⟩), 5, 40) := by kernel_rfl
theorem pl183 : PlacesAt Try.prog 183 [(0, 1), (1, 1), (2, 1), (3, 1), (4, 1)] := ⟨_, Try.underlying183, by kernel_rfl⟩
theorem ia183 : IntsAt Try.prog 183 [.i64, .i64, .i64, .i64, .i64] := intsAt_of (by kernel_rfl)
theorem fa183_0 : FieldAt Try.prog 183 0 0 := fieldAt Try.underlying183 rfl rfl ts3 rfl
theorem fa183_1 : FieldAt Try.prog 183 1 1 := fieldAt Try.underlying183 rfl rfl ts3 rfl
theorem fa183_2 : FieldAt Try.prog 183 2 2 := fieldAt Try.underlying183 rfl rfl ts3 rfl
theorem fa183_3 : FieldAt Try.prog 183 3 3 := fieldAt Try.underlying183 rfl rfl ts3 rfl
theorem fa183_4 : FieldAt Try.prog 183 4 4 := fieldAt Try.underlying183 rfl rfl ts3 rfl
theorem tz190 : (Try.prog.info? 190).bind (·.zero) = some (.pointer none) := by kernel_rfl
theorem ti190 : (Try.prog.info? 190).map (fun i => (i.zero, i.size, i.bytes)) = some (some (.pointer none), 1, 8) := by kernel_rfl
theorem tz193 : (Try.prog.info? 193).bind (·.zero) = some (.pointer none) := by kernel_rfl
theorem ti193 : (Try.prog.info? 193).map (fun i => (i.zero, i.size, i.bytes)) = some (some (.pointer none), 1, 8) := by kernel_rfl
theorem tz196 : (Try.prog.info? 196).bind (·.zero) = some (.slice none 0 0) := by kernel_rfl
theorem ti196 : (Try.prog.info? 196).map (fun i => (i.zero, i.size, i.bytes)) = some (some (.slice none 0 0), 1, 24) := by kernel_rfl
theorem tz197 : (Try.prog.info? 197).bind (·.zero) = some (.slice none 0 0) := by kernel_rfl
theorem ti197 : (Try.prog.info? 197).map (fun i => (i.zero, i.size, i.bytes)) = some (some (.slice none 0 0), 1, 24) := by kernel_rfl
theorem tz198 : (Try.prog.info? 198).bind (·.zero) = some (.agg ⟨[.int .i64 0, .int .i64 0]⟩) := by kernel_rfl
theorem ti198 : (Try.prog.info? 198).map (fun i => (i.zero, i.size, i.bytes)) = some (some (.agg ⟨[.int .i64 0, .int .i64 0]⟩), 2, 16) := by kernel_rfl
theorem pl198 : PlacesAt Try.prog 198 [(0, 1), (1, 1)] := ⟨_, Try.underlying198, by kernel_rfl⟩
theorem ia198 : IntsAt Try.prog 198 [.i64, .i64] := intsAt_of (by kernel_rfl)
theorem fa198_0 : FieldAt Try.prog 198 0 0 := fieldAt Try.underlying198 rfl rfl ts3 rfl
theorem fa198_1 : FieldAt Try.prog 198 1 1 := fieldAt Try.underlying198 rfl rfl ts3 rfl
theorem tz199 : (Try.prog.info? 199).bind (·.zero) = some (.agg ⟨[.int .i64 0, .int .i64 0]⟩) := by kernel_rfl
theorem ti199 : (Try.prog.info? 199).map (fun i => (i.zero, i.size, i.bytes)) = some (some (.agg ⟨[.int .i64 0, .int .i64 0]⟩), 2, 16) := by kernel_rfl
theorem pl199 : PlacesAt Try.prog 199 [(0, 1), (1, 1)] := ⟨_, Try.underlying199, by kernel_rfl⟩
theorem ia199 : IntsAt Try.prog 199 [.i64, .i64] := intsAt_of (by kernel_rfl)
theorem fa199_0 : FieldAt Try.prog 199 0 0 := fieldAt Try.underlying199 rfl rfl ts3 rfl
theorem fa199_1 : FieldAt Try.prog 199 1 1 := fieldAt Try.underlying199 rfl rfl ts3 rfl
theorem tz200 : (Try.prog.info? 200).bind (·.zero) = some (.agg ⟨[.int .i64 0, .int .i64 0, .int .i64 0, .int .i64 0, .int .i64 0, .int .i64 0, .int .i64 0, .int .i64 0, .int .i64 0, .int .i64 0, .int .i64 0, .int .i64 0, .int .i64 0, .int .i64 0, .pointer none, .pointer none, .pointer none, .slice none 0 0, .slice none 0 0, .slice none 0 0, .int .i64 0, .int .i64 0]⟩) := by kernel_rfl
theorem ti200 : (Try.prog.info? 200).map (fun i => (i.zero, i.size, i.bytes)) = some (some (.agg ⟨[.int .i64 0, .int .i64 0, .int .i64 0, .int .i64 0, .int .i64 0, .int .i64 0, .int .i64 0, .int .i64 0, .int .i64 0, .int .i64 0, .int .i64 0, .int .i64 0, .int .i64 0, .int .i64 0, .pointer none, .pointer none, .pointer none, .slice none 0 0, .slice none 0 0, .slice none 0 0, .int .i64 0, .int .i64 0]⟩), 22, 224) := by kernel_rfl
theorem pl200 : PlacesAt Try.prog 200 [(0, 14), (14, 1), (15, 1), (16, 1), (17, 1), (18, 1), (19, 1), (20, 2)] := ⟨_, Try.underlying200, by kernel_rfl⟩
theorem fa200_0 : FieldAt Try.prog 200 0 0 := fieldAt Try.underlying200 rfl rfl ts53 rfl
theorem fa200_1 : FieldAt Try.prog 200 1 14 := fieldAt Try.underlying200 rfl rfl ts190 rfl
theorem fa200_2 : FieldAt Try.prog 200 2 15 := fieldAt Try.underlying200 rfl rfl ts193 rfl
theorem fa200_3 : FieldAt Try.prog 200 3 16 := fieldAt Try.underlying200 rfl rfl ts89 rfl
theorem fa200_4 : FieldAt Try.prog 200 4 17 := fieldAt Try.underlying200 rfl rfl ts196 rfl
theorem fa200_5 : FieldAt Try.prog 200 5 18 := fieldAt Try.underlying200 rfl rfl ts197 rfl
theorem fa200_6 : FieldAt Try.prog 200 6 19 := fieldAt Try.underlying200 rfl rfl ts123 rfl
theorem fa200_7 : FieldAt Try.prog 200 7 20 := fieldAt Try.underlying200 rfl rfl ts199 rfl
theorem tz201 : (Try.prog.info? 201).bind (·.zero) = some (.agg ⟨[.int .i64 0, .int .i64 0, .int .i64 0, .int .i64 0, .int .i64 0, .int .i64 0, .int .i64 0, .int .i64 0, .int .i64 0, .int .i64 0, .int .i64 0, .int .i64 0, .int .i64 0, .int .i64 0, .pointer none, .pointer none, .pointer none, .slice none 0 0, .slice none 0 0, .slice none 0 0, .int .i64 0, .int .i64 0]⟩) := by kernel_rfl
theorem ti201 : (Try.prog.info? 201).map (fun i => (i.zero, i.size, i.bytes)) = some (some (.agg ⟨[.int .i64 0, .int .i64 0, .int .i64 0, .int .i64 0, .int .i64 0, .int .i64 0, .int .i64 0, .int .i64 0, .int .i64 0, .int .i64 0, .int .i64 0, .int .i64 0, .int .i64 0, .int .i64 0, .pointer none, .pointer none, .pointer none, .slice none 0 0, .slice none 0 0, .slice none 0 0, .int .i64 0, .int .i64 0]⟩), 22, 224) := by kernel_rfl
theorem pl201 : PlacesAt Try.prog 201 [(0, 14), (14, 1), (15, 1), (16, 1), (17, 1), (18, 1), (19, 1), (20, 2)] := ⟨_, Try.underlying201, by kernel_rfl⟩
theorem fa201_0 : FieldAt Try.prog 201 0 0 := fieldAt Try.underlying201 rfl rfl ts53 rfl
theorem fa201_1 : FieldAt Try.prog 201 1 14 := fieldAt Try.underlying201 rfl rfl ts190 rfl
theorem fa201_2 : FieldAt Try.prog 201 2 15 := fieldAt Try.underlying201 rfl rfl ts193 rfl
theorem fa201_3 : FieldAt Try.prog 201 3 16 := fieldAt Try.underlying201 rfl rfl ts89 rfl
theorem fa201_4 : FieldAt Try.prog 201 4 17 := fieldAt Try.underlying201 rfl rfl ts196 rfl
theorem fa201_5 : FieldAt Try.prog 201 5 18 := fieldAt Try.underlying201 rfl rfl ts197 rfl
theorem fa201_6 : FieldAt Try.prog 201 6 19 := fieldAt Try.underlying201 rfl rfl ts123 rfl
theorem fa201_7 : FieldAt Try.prog 201 7 20 := fieldAt Try.underlying201 rfl rfl ts199 rfl
theorem tz215 : (Try.prog.info? 215).bind (·.zero) = some (.agg ⟨List.replicate 32 (.int .u8 0) ++ [.int .i64 0, .int .i64 0, .bool false, .int .i64 0, .slice none 0 0, .string ⟨#[]⟩, .slice none 0 0]⟩) := by kernel_rfl
theorem ti215 : (Try.prog.info? 215).map (fun i => (i.zero, i.size, i.bytes)) = some (some (.agg ⟨List.replicate 32 (.int .u8 0) ++ [.int .i64 0, .int .i64 0, .bool false, .int .i64 0, .slice none 0 0, .string ⟨#[]⟩, .slice none 0 0]⟩), 39, 128) := by kernel_rfl
theorem pl215 : PlacesAt Try.prog 215 [(0, 32), (32, 1), (33, 1), (34, 1), (35, 1), (36, 1), (37, 1), (38, 1)] := ⟨_, Try.underlying215, by kernel_rfl⟩
theorem fa215_0 : FieldAt Try.prog 215 0 0 := fieldAt Try.underlying215 rfl rfl ts70 rfl
theorem fa215_1 : FieldAt Try.prog 215 1 32 := fieldAt Try.underlying215 rfl rfl ts3 rfl
theorem fa215_2 : FieldAt Try.prog 215 2 33 := fieldAt Try.underlying215 rfl rfl ts3 rfl
theorem fa215_3 : FieldAt Try.prog 215 3 34 := fieldAt Try.underlying215 rfl rfl ts4 rfl
theorem fa215_4 : FieldAt Try.prog 215 4 35 := fieldAt Try.underlying215 rfl rfl ts3 rfl
theorem fa215_5 : FieldAt Try.prog 215 5 36 := fieldAt Try.underlying215 rfl rfl ts43 rfl
theorem fa215_6 : FieldAt Try.prog 215 6 37 := fieldAt Try.underlying215 rfl rfl ts9 rfl
theorem fa215_7 : FieldAt Try.prog 215 7 38 := fieldAt Try.underlying215 rfl rfl ts57 rfl
theorem tz216 : (Try.prog.info? 216).bind (·.zero) = some (.agg ⟨List.replicate 32 (.int .u8 0) ++ [.int .i64 0, .int .i64 0, .bool false, .int .i64 0, .slice none 0 0, .string ⟨#[]⟩, .slice none 0 0]⟩) := by kernel_rfl
theorem ti216 : (Try.prog.info? 216).map (fun i => (i.zero, i.size, i.bytes)) = some (some (.agg ⟨List.replicate 32 (.int .u8 0) ++ [.int .i64 0, .int .i64 0, .bool false, .int .i64 0, .slice none 0 0, .string ⟨#[]⟩, .slice none 0 0]⟩), 39, 128) := by kernel_rfl
theorem pl216 : PlacesAt Try.prog 216 [(0, 32), (32, 1), (33, 1), (34, 1), (35, 1), (36, 1), (37, 1), (38, 1)] := ⟨_, Try.underlying216, by kernel_rfl⟩
theorem fa216_0 : FieldAt Try.prog 216 0 0 := fieldAt Try.underlying216 rfl rfl ts70 rfl
theorem fa216_1 : FieldAt Try.prog 216 1 32 := fieldAt Try.underlying216 rfl rfl ts3 rfl
theorem fa216_2 : FieldAt Try.prog 216 2 33 := fieldAt Try.underlying216 rfl rfl ts3 rfl
theorem fa216_3 : FieldAt Try.prog 216 3 34 := fieldAt Try.underlying216 rfl rfl ts4 rfl
theorem fa216_4 : FieldAt Try.prog 216 4 35 := fieldAt Try.underlying216 rfl rfl ts3 rfl
theorem fa216_5 : FieldAt Try.prog 216 5 36 := fieldAt Try.underlying216 rfl rfl ts43 rfl
theorem fa216_6 : FieldAt Try.prog 216 6 37 := fieldAt Try.underlying216 rfl rfl ts9 rfl
theorem fa216_7 : FieldAt Try.prog 216 7 38 := fieldAt Try.underlying216 rfl rfl ts57 rfl
theorem tz219 : (Try.prog.info? 219).bind (·.zero) = some (.slice none 0 0) := by kernel_rfl
theorem ti219 : (Try.prog.info? 219).map (fun i => (i.zero, i.size, i.bytes)) = some (some (.slice none 0 0), 1, 24) := by kernel_rfl
theorem tz220 : (Try.prog.info? 220).bind (·.zero) = some (.agg ⟨[.slice none 0 0, .int .i64 0]⟩) := by kernel_rfl
theorem ti220 : (Try.prog.info? 220).map (fun i => (i.zero, i.size, i.bytes)) = some (some (.agg ⟨[.slice none 0 0, .int .i64 0]⟩), 2, 32) := by kernel_rfl
theorem pl220 : PlacesAt Try.prog 220 [(0, 1), (1, 1)] := ⟨_, Try.underlying220, by kernel_rfl⟩
theorem fa220_0 : FieldAt Try.prog 220 0 0 := fieldAt Try.underlying220 rfl rfl ts219 rfl
theorem fa220_1 : FieldAt Try.prog 220 1 1 := fieldAt Try.underlying220 rfl rfl ts3 rfl
theorem tz221 : (Try.prog.info? 221).bind (·.zero) = some (.agg ⟨[.slice none 0 0, .int .i64 0]⟩) := by kernel_rfl
theorem ti221 : (Try.prog.info? 221).map (fun i => (i.zero, i.size, i.bytes)) = some (some (.agg ⟨[.slice none 0 0, .int .i64 0]⟩), 2, 32) := by kernel_rfl
theorem pl221 : PlacesAt Try.prog 221 [(0, 1), (1, 1)] := ⟨_, Try.underlying221, by kernel_rfl⟩
theorem fa221_0 : FieldAt Try.prog 221 0 0 := fieldAt Try.underlying221 rfl rfl ts219 rfl
theorem fa221_1 : FieldAt Try.prog 221 1 1 := fieldAt Try.underlying221 rfl rfl ts3 rfl
theorem tz222 : (Try.prog.info? 222).bind (·.zero) = some (.agg ⟨List.replicate 2 (.int .i64 0)⟩) := by kernel_rfl
theorem ti222 : (Try.prog.info? 222).map (fun i => (i.zero, i.size, i.bytes)) = some (some (.agg ⟨List.replicate 2 (.int .i64 0)⟩), 2, 16) := by kernel_rfl
theorem tz223 : (Try.prog.info? 223).bind (·.zero) = some (.agg ⟨List.replicate 2 (.int .i64 0) ++ List.replicate 2 (.int .i64 0) ++ List.replicate 2 (.int .i64 0) ++ List.replicate 2 (.int .i64 0)⟩) := by kernel_rfl
theorem ti223 : (Try.prog.info? 223).map (fun i => (i.zero, i.size, i.bytes)) = some (some (.agg ⟨List.replicate 2 (.int .i64 0) ++ List.replicate 2 (.int .i64 0) ++ List.replicate 2 (.int .i64 0) ++ List.replicate 2 (.int .i64 0)⟩), 8, 64) := by kernel_rfl
theorem tz224 : (Try.prog.info? 224).bind (·.zero) = some (.agg ⟨List.replicate 4 (.int .u8 0)⟩) := by kernel_rfl
theorem ti224 : (Try.prog.info? 224).map (fun i => (i.zero, i.size, i.bytes)) = some (some (.agg ⟨List.replicate 4 (.int .u8 0)⟩), 4, 4) := by kernel_rfl
theorem tz226 : (Try.prog.info? 226).bind (·.zero) = some (.int .u32 0) := by kernel_rfl
theorem ti226 : (Try.prog.info? 226).map (fun i => (i.zero, i.size, i.bytes)) = some (some (.int .u32 0), 1, 4) := by kernel_rfl
theorem tz228 : (Try.prog.info? 228).bind (·.zero) = some (.agg ⟨[.slice none 0 0, .bool false]⟩) := by kernel_rfl
theorem ti228 : (Try.prog.info? 228).map (fun i => (i.zero, i.size, i.bytes)) = some (some (.agg ⟨[.slice none 0 0, .bool false]⟩), 2, 32) := by kernel_rfl
theorem pl228 : PlacesAt Try.prog 228 [(0, 1), (1, 1)] := ⟨_, Try.underlying228, by kernel_rfl⟩
theorem fa228_0 : FieldAt Try.prog 228 0 0 := fieldAt Try.underlying228 rfl rfl ts42 rfl
theorem fa228_1 : FieldAt Try.prog 228 1 1 := fieldAt Try.underlying228 rfl rfl ts4 rfl
theorem tz229 : (Try.prog.info? 229).bind (·.zero) = some (.agg ⟨[.slice none 0 0, .bool false]⟩) := by kernel_rfl
theorem ti229 : (Try.prog.info? 229).map (fun i => (i.zero, i.size, i.bytes)) = some (some (.agg ⟨[.slice none 0 0, .bool false]⟩), 2, 32) := by kernel_rfl
theorem pl229 : PlacesAt Try.prog 229 [(0, 1), (1, 1)] := ⟨_, Try.underlying229, by kernel_rfl⟩
theorem fa229_0 : FieldAt Try.prog 229 0 0 := fieldAt Try.underlying229 rfl rfl ts42 rfl
theorem fa229_1 : FieldAt Try.prog 229 1 1 := fieldAt Try.underlying229 rfl rfl ts4 rfl
theorem tz233 : (Try.prog.info? 233).bind (·.zero) = some (.map none) := by kernel_rfl
theorem ti233 : (Try.prog.info? 233).map (fun i => (i.zero, i.size, i.bytes)) = some (some (.map none), 1, 8) := by kernel_rfl
theorem tz234 : (Try.prog.info? 234).bind (·.zero) = some (.slice none 0 0) := by kernel_rfl
theorem ti234 : (Try.prog.info? 234).map (fun i => (i.zero, i.size, i.bytes)) = some (some (.slice none 0 0), 1, 24) := by kernel_rfl
theorem tz236 : (Try.prog.info? 236).bind (·.zero) = some (.agg ⟨List.replicate 32 (.int .u8 0) ++ [.int .i64 0, .int .i64 0]⟩) := by kernel_rfl
theorem ti236 : (Try.prog.info? 236).map (fun i => (i.zero, i.size, i.bytes)) = some (some (.agg ⟨List.replicate 32 (.int .u8 0) ++ [.int .i64 0, .int .i64 0]⟩), 34, 48) := by kernel_rfl
theorem pl236 : PlacesAt Try.prog 236 [(0, 32), (32, 1), (33, 1)] := ⟨_, Try.underlying236, by kernel_rfl⟩
theorem fa236_0 : FieldAt Try.prog 236 0 0 := fieldAt Try.underlying236 rfl rfl ts70 rfl
theorem fa236_1 : FieldAt Try.prog 236 1 32 := fieldAt Try.underlying236 rfl rfl ts3 rfl
theorem fa236_2 : FieldAt Try.prog 236 2 33 := fieldAt Try.underlying236 rfl rfl ts3 rfl
theorem tz237 : (Try.prog.info? 237).bind (·.zero) = some (.agg ⟨List.replicate 32 (.int .u8 0) ++ [.int .i64 0, .int .i64 0]⟩) := by kernel_rfl
theorem ti237 : (Try.prog.info? 237).map (fun i => (i.zero, i.size, i.bytes)) = some (some (.agg ⟨List.replicate 32 (.int .u8 0) ++ [.int .i64 0, .int .i64 0]⟩), 34, 48) := by kernel_rfl
theorem pl237 : PlacesAt Try.prog 237 [(0, 32), (32, 1), (33, 1)] := ⟨_, Try.underlying237, by kernel_rfl⟩
theorem fa237_0 : FieldAt Try.prog 237 0 0 := fieldAt Try.underlying237 rfl rfl ts70 rfl
theorem fa237_1 : FieldAt Try.prog 237 1 32 := fieldAt Try.underlying237 rfl rfl ts3 rfl
theorem fa237_2 : FieldAt Try.prog 237 2 33 := fieldAt Try.underlying237 rfl rfl ts3 rfl
theorem tz241 : (Try.prog.info? 241).bind (·.zero) = some (.map none) := by kernel_rfl
theorem ti241 : (Try.prog.info? 241).map (fun i => (i.zero, i.size, i.bytes)) = some (some (.map none), 1, 8) := by kernel_rfl
theorem tz243 : (Try.prog.info? 243).bind (·.zero) = some (.agg ⟨[.slice none 0 0]⟩) := by kernel_rfl
theorem ti243 : (Try.prog.info? 243).map (fun i => (i.zero, i.size, i.bytes)) = some (some (.agg ⟨[.slice none 0 0]⟩), 1, 24) := by kernel_rfl
theorem pl243 : PlacesAt Try.prog 243 [(0, 1)] := ⟨_, Try.underlying243, by kernel_rfl⟩
theorem fa243_0 : FieldAt Try.prog 243 0 0 := fieldAt Try.underlying243 rfl rfl ts42 rfl
theorem tz244 : (Try.prog.info? 244).bind (·.zero) = some (.agg ⟨[.slice none 0 0]⟩) := by kernel_rfl
theorem ti244 : (Try.prog.info? 244).map (fun i => (i.zero, i.size, i.bytes)) = some (some (.agg ⟨[.slice none 0 0]⟩), 1, 24) := by kernel_rfl
theorem pl244 : PlacesAt Try.prog 244 [(0, 1)] := ⟨_, Try.underlying244, by kernel_rfl⟩
theorem fa244_0 : FieldAt Try.prog 244 0 0 := fieldAt Try.underlying244 rfl rfl ts42 rfl
theorem tz245 : (Try.prog.info? 245).bind (·.zero) = some (.slice none 0 0) := by kernel_rfl
theorem ti245 : (Try.prog.info? 245).map (fun i => (i.zero, i.size, i.bytes)) = some (some (.slice none 0 0), 1, 24) := by kernel_rfl
theorem tz246 : (Try.prog.info? 246).bind (·.zero) = some (.agg ⟨[.slice none 0 0, .int .i64 0]⟩) := by kernel_rfl
theorem ti246 : (Try.prog.info? 246).map (fun i => (i.zero, i.size, i.bytes)) = some (some (.agg ⟨[.slice none 0 0, .int .i64 0]⟩), 2, 32) := by kernel_rfl
theorem pl246 : PlacesAt Try.prog 246 [(0, 1), (1, 1)] := ⟨_, Try.underlying246, by kernel_rfl⟩
theorem fa246_0 : FieldAt Try.prog 246 0 0 := fieldAt Try.underlying246 rfl rfl ts245 rfl
theorem fa246_1 : FieldAt Try.prog 246 1 1 := fieldAt Try.underlying246 rfl rfl ts3 rfl
theorem tz247 : (Try.prog.info? 247).bind (·.zero) = some (.agg ⟨[.slice none 0 0, .int .i64 0]⟩) := by kernel_rfl
theorem ti247 : (Try.prog.info? 247).map (fun i => (i.zero, i.size, i.bytes)) = some (some (.agg ⟨[.slice none 0 0, .int .i64 0]⟩), 2, 32) := by kernel_rfl
theorem pl247 : PlacesAt Try.prog 247 [(0, 1), (1, 1)] := ⟨_, Try.underlying247, by kernel_rfl⟩
theorem fa247_0 : FieldAt Try.prog 247 0 0 := fieldAt Try.underlying247 rfl rfl ts245 rfl
theorem fa247_1 : FieldAt Try.prog 247 1 1 := fieldAt Try.underlying247 rfl rfl ts3 rfl
theorem tz248 : (Try.prog.info? 248).bind (·.zero) = some (.pointer none) := by kernel_rfl
theorem ti248 : (Try.prog.info? 248).map (fun i => (i.zero, i.size, i.bytes)) = some (some (.pointer none), 1, 8) := by kernel_rfl
theorem tz252 : (Try.prog.info? 252).bind (·.zero) = some (.slice none 0 0) := by kernel_rfl
theorem ti252 : (Try.prog.info? 252).map (fun i => (i.zero, i.size, i.bytes)) = some (some (.slice none 0 0), 1, 24) := by kernel_rfl
theorem tz254 : (Try.prog.info? 254).bind (·.zero) = some (.agg ⟨List.replicate 8 (.int .u32 0)⟩) := by kernel_rfl
theorem ti254 : (Try.prog.info? 254).map (fun i => (i.zero, i.size, i.bytes)) = some (some (.agg ⟨List.replicate 8 (.int .u32 0)⟩), 8, 32) := by kernel_rfl
theorem tz256 : (Try.prog.info? 256).bind (·.zero) = some (.agg ⟨List.replicate 64 (.int .u32 0)⟩) := by kernel_rfl
theorem ti256 : (Try.prog.info? 256).map (fun i => (i.zero, i.size, i.bytes)) = some (some (.agg ⟨List.replicate 64 (.int .u32 0)⟩), 64, 256) := by kernel_rfl
theorem tz258 : (Try.prog.info? 258).bind (·.zero) = some (.int .u64 0) := by kernel_rfl
theorem ti258 : (Try.prog.info? 258).map (fun i => (i.zero, i.size, i.bytes)) = some (some (.int .u64 0), 1, 8) := by kernel_rfl
theorem tz259 : (Try.prog.info? 259).bind (·.zero) = some (.agg ⟨[.int .i64 0, .int .i64 0] ++ List.replicate 32 (.int .u8 0)⟩) := by kernel_rfl
theorem ti259 : (Try.prog.info? 259).map (fun i => (i.zero, i.size, i.bytes)) = some (some (.agg ⟨[.int .i64 0, .int .i64 0] ++ List.replicate 32 (.int .u8 0)⟩), 34, 48) := by kernel_rfl
theorem pl259 : PlacesAt Try.prog 259 [(0, 1), (1, 1), (2, 32)] := ⟨_, Try.underlying259, by kernel_rfl⟩
theorem fa259_0 : FieldAt Try.prog 259 0 0 := fieldAt Try.underlying259 rfl rfl ts3 rfl
theorem fa259_1 : FieldAt Try.prog 259 1 1 := fieldAt Try.underlying259 rfl rfl ts3 rfl
theorem fa259_2 : FieldAt Try.prog 259 2 2 := fieldAt Try.underlying259 rfl rfl ts70 rfl
theorem tz260 : (Try.prog.info? 260).bind (·.zero) = some (.agg ⟨[.int .i64 0, .int .i64 0] ++ List.replicate 32 (.int .u8 0)⟩) := by kernel_rfl
theorem ti260 : (Try.prog.info? 260).map (fun i => (i.zero, i.size, i.bytes)) = some (some (.agg ⟨[.int .i64 0, .int .i64 0] ++ List.replicate 32 (.int .u8 0)⟩), 34, 48) := by kernel_rfl
theorem pl260 : PlacesAt Try.prog 260 [(0, 1), (1, 1), (2, 32)] := ⟨_, Try.underlying260, by kernel_rfl⟩
theorem fa260_0 : FieldAt Try.prog 260 0 0 := fieldAt Try.underlying260 rfl rfl ts3 rfl
theorem fa260_1 : FieldAt Try.prog 260 1 1 := fieldAt Try.underlying260 rfl rfl ts3 rfl
theorem fa260_2 : FieldAt Try.prog 260 2 2 := fieldAt Try.underlying260 rfl rfl ts70 rfl
theorem tz268 : (Try.prog.info? 268).bind (·.zero) = some (.agg ⟨List.replicate 8 (.int .u32 0) ++ [.slice none 0 0, .int .u64 0]⟩) := by kernel_rfl
theorem ti268 : (Try.prog.info? 268).map (fun i => (i.zero, i.size, i.bytes)) = some (some (.agg ⟨List.replicate 8 (.int .u32 0) ++ [.slice none 0 0, .int .u64 0]⟩), 10, 64) := by kernel_rfl
theorem pl268 : PlacesAt Try.prog 268 [(0, 8), (8, 1), (9, 1)] := ⟨_, Try.underlying268, by kernel_rfl⟩
theorem fa268_0 : FieldAt Try.prog 268 0 0 := fieldAt Try.underlying268 rfl rfl ts254 rfl
theorem fa268_1 : FieldAt Try.prog 268 1 8 := fieldAt Try.underlying268 rfl rfl ts42 rfl
theorem fa268_2 : FieldAt Try.prog 268 2 9 := fieldAt Try.underlying268 rfl rfl ts165 rfl
theorem tz269 : (Try.prog.info? 269).bind (·.zero) = some (.agg ⟨List.replicate 8 (.int .u32 0) ++ [.slice none 0 0, .int .u64 0]⟩) := by kernel_rfl
theorem ti269 : (Try.prog.info? 269).map (fun i => (i.zero, i.size, i.bytes)) = some (some (.agg ⟨List.replicate 8 (.int .u32 0) ++ [.slice none 0 0, .int .u64 0]⟩), 10, 64) := by kernel_rfl
theorem pl269 : PlacesAt Try.prog 269 [(0, 8), (8, 1), (9, 1)] := ⟨_, Try.underlying269, by kernel_rfl⟩
theorem fa269_0 : FieldAt Try.prog 269 0 0 := fieldAt Try.underlying269 rfl rfl ts254 rfl
theorem fa269_1 : FieldAt Try.prog 269 1 8 := fieldAt Try.underlying269 rfl rfl ts42 rfl
theorem fa269_2 : FieldAt Try.prog 269 2 9 := fieldAt Try.underlying269 rfl rfl ts165 rfl
theorem tz281 : (Try.prog.info? 281).bind (·.zero) = some (.agg ⟨[.pointer none, .pointer none, .pointer none, .string ⟨#[]⟩]⟩) := by kernel_rfl
theorem ti281 : (Try.prog.info? 281).map (fun i => (i.zero, i.size, i.bytes)) = some (some (.agg ⟨[.pointer none, .pointer none, .pointer none, .string ⟨#[]⟩]⟩), 4, 40) := by kernel_rfl
theorem pl281 : PlacesAt Try.prog 281 [(0, 1), (1, 1), (2, 1), (3, 1)] := ⟨_, Try.underlying281, by kernel_rfl⟩
theorem fa281_0 : FieldAt Try.prog 281 0 0 := fieldAt Try.underlying281 rfl rfl ts17 rfl
theorem fa281_1 : FieldAt Try.prog 281 1 1 := fieldAt Try.underlying281 rfl rfl ts17 rfl
theorem fa281_2 : FieldAt Try.prog 281 2 2 := fieldAt Try.underlying281 rfl rfl ts17 rfl
theorem fa281_3 : FieldAt Try.prog 281 3 3 := fieldAt Try.underlying281 rfl rfl ts9 rfl
theorem tz282 : (Try.prog.info? 282).bind (·.zero) = some (.agg ⟨[.pointer none, .pointer none, .pointer none, .string ⟨#[]⟩]⟩) := by kernel_rfl
theorem ti282 : (Try.prog.info? 282).map (fun i => (i.zero, i.size, i.bytes)) = some (some (.agg ⟨[.pointer none, .pointer none, .pointer none, .string ⟨#[]⟩]⟩), 4, 40) := by kernel_rfl
theorem pl282 : PlacesAt Try.prog 282 [(0, 1), (1, 1), (2, 1), (3, 1)] := ⟨_, Try.underlying282, by kernel_rfl⟩
theorem fa282_0 : FieldAt Try.prog 282 0 0 := fieldAt Try.underlying282 rfl rfl ts17 rfl
theorem fa282_1 : FieldAt Try.prog 282 1 1 := fieldAt Try.underlying282 rfl rfl ts17 rfl
theorem fa282_2 : FieldAt Try.prog 282 2 2 := fieldAt Try.underlying282 rfl rfl ts17 rfl
theorem fa282_3 : FieldAt Try.prog 282 3 3 := fieldAt Try.underlying282 rfl rfl ts9 rfl
theorem tz283 : (Try.prog.info? 283).bind (·.zero) = some (.agg ⟨List.replicate 0 (.pointer none)⟩) := by kernel_rfl
theorem ti283 : (Try.prog.info? 283).map (fun i => (i.zero, i.size, i.bytes)) = some (some (.agg ⟨List.replicate 0 (.pointer none)⟩), 0, 0) := by kernel_rfl
theorem tz284 : (Try.prog.info? 284).bind (·.zero) = some (.agg ⟨List.replicate 0 (.pointer none)⟩) := by kernel_rfl
theorem ti284 : (Try.prog.info? 284).map (fun i => (i.zero, i.size, i.bytes)) = some (some (.agg ⟨List.replicate 0 (.pointer none)⟩), 0, 0) := by kernel_rfl
theorem pl284 : PlacesAt Try.prog 284 [(0, 0)] := ⟨_, Try.underlying284, by kernel_rfl⟩
theorem tz285 : (Try.prog.info? 285).bind (·.zero) = some (.agg ⟨List.replicate 0 (.pointer none)⟩) := by kernel_rfl
theorem ti285 : (Try.prog.info? 285).map (fun i => (i.zero, i.size, i.bytes)) = some (some (.agg ⟨List.replicate 0 (.pointer none)⟩), 0, 0) := by kernel_rfl
theorem pl285 : PlacesAt Try.prog 285 [(0, 0)] := ⟨_, Try.underlying285, by kernel_rfl⟩
theorem tz286 : (Try.prog.info? 286).bind (·.zero) = some (.int .u8 0) := by kernel_rfl
theorem ti286 : (Try.prog.info? 286).map (fun i => (i.zero, i.size, i.bytes)) = some (some (.int .u8 0), 1, 1) := by kernel_rfl
theorem tz287 : (Try.prog.info? 287).bind (·.zero) = some (.int .u8 0) := by kernel_rfl
theorem ti287 : (Try.prog.info? 287).map (fun i => (i.zero, i.size, i.bytes)) = some (some (.int .u8 0), 1, 1) := by kernel_rfl
theorem tz289 : (Try.prog.info? 289).bind (·.zero) = some (.pointer none) := by kernel_rfl
theorem ti289 : (Try.prog.info? 289).map (fun i => (i.zero, i.size, i.bytes)) = some (some (.pointer none), 1, 8) := by kernel_rfl
theorem tz290 : (Try.prog.info? 290).bind (·.zero) = some (.int .i32 0) := by kernel_rfl
theorem ti290 : (Try.prog.info? 290).map (fun i => (i.zero, i.size, i.bytes)) = some (some (.int .i32 0), 1, 4) := by kernel_rfl
theorem tz291 : (Try.prog.info? 291).bind (·.zero) = some (.int .i32 0) := by kernel_rfl
theorem ti291 : (Try.prog.info? 291).map (fun i => (i.zero, i.size, i.bytes)) = some (some (.int .i32 0), 1, 4) := by kernel_rfl
theorem tz292 : (Try.prog.info? 292).bind (·.zero) = some (.agg ⟨[.int .u64 0, .int .u64 0, .int .u32 0, .int .u8 0, .int .u8 0, .int .u8 0, .int .u8 0, .nilFunc, .pointer none, .int .i32 0, .int .i32 0]⟩) := by kernel_rfl
theorem ti292 : (Try.prog.info? 292).map (fun i => (i.zero, i.size, i.bytes)) = some (some (.agg ⟨[.int .u64 0, .int .u64 0, .int .u32 0, .int .u8 0, .int .u8 0, .int .u8 0, .int .u8 0, .nilFunc, .pointer none, .int .i32 0, .int .i32 0]⟩), 11, 48) := by kernel_rfl
theorem fa292_0 : FieldAt Try.prog 292 0 0 := fieldAt Try.underlying292 rfl rfl ts12 rfl
theorem fa292_1 : FieldAt Try.prog 292 1 1 := fieldAt Try.underlying292 rfl rfl ts12 rfl
theorem fa292_2 : FieldAt Try.prog 292 2 2 := fieldAt Try.underlying292 rfl rfl ts226 rfl
theorem fa292_3 : FieldAt Try.prog 292 3 3 := fieldAt Try.underlying292 rfl rfl ts286 rfl
theorem fa292_4 : FieldAt Try.prog 292 4 4 := fieldAt Try.underlying292 rfl rfl ts5 rfl
theorem fa292_5 : FieldAt Try.prog 292 5 5 := fieldAt Try.underlying292 rfl rfl ts5 rfl
theorem fa292_6 : FieldAt Try.prog 292 6 6 := fieldAt Try.underlying292 rfl rfl ts287 rfl
theorem fa292_8 : FieldAt Try.prog 292 8 8 := fieldAt Try.underlying292 rfl rfl ts289 rfl
theorem fa292_9 : FieldAt Try.prog 292 9 9 := fieldAt Try.underlying292 rfl rfl ts290 rfl
theorem fa292_10 : FieldAt Try.prog 292 10 10 := fieldAt Try.underlying292 rfl rfl ts291 rfl
theorem tz293 : (Try.prog.info? 293).bind (·.zero) = some (.agg ⟨[.int .u64 0, .int .u64 0, .int .u32 0, .int .u8 0, .int .u8 0, .int .u8 0, .int .u8 0, .nilFunc, .pointer none, .int .i32 0, .int .i32 0]⟩) := by kernel_rfl
theorem ti293 : (Try.prog.info? 293).map (fun i => (i.zero, i.size, i.bytes)) = some (some (.agg ⟨[.int .u64 0, .int .u64 0, .int .u32 0, .int .u8 0, .int .u8 0, .int .u8 0, .int .u8 0, .nilFunc, .pointer none, .int .i32 0, .int .i32 0]⟩), 11, 48) := by kernel_rfl
theorem fa293_0 : FieldAt Try.prog 293 0 0 := fieldAt Try.underlying293 rfl rfl ts12 rfl
theorem fa293_1 : FieldAt Try.prog 293 1 1 := fieldAt Try.underlying293 rfl rfl ts12 rfl
theorem fa293_2 : FieldAt Try.prog 293 2 2 := fieldAt Try.underlying293 rfl rfl ts226 rfl
theorem fa293_3 : FieldAt Try.prog 293 3 3 := fieldAt Try.underlying293 rfl rfl ts286 rfl
theorem fa293_4 : FieldAt Try.prog 293 4 4 := fieldAt Try.underlying293 rfl rfl ts5 rfl
theorem fa293_5 : FieldAt Try.prog 293 5 5 := fieldAt Try.underlying293 rfl rfl ts5 rfl
theorem fa293_6 : FieldAt Try.prog 293 6 6 := fieldAt Try.underlying293 rfl rfl ts287 rfl
theorem fa293_8 : FieldAt Try.prog 293 8 8 := fieldAt Try.underlying293 rfl rfl ts289 rfl
theorem fa293_9 : FieldAt Try.prog 293 9 9 := fieldAt Try.underlying293 rfl rfl ts290 rfl
theorem fa293_10 : FieldAt Try.prog 293 10 10 := fieldAt Try.underlying293 rfl rfl ts291 rfl
theorem mixed : Try.prog.follows .mixedOrders = true := by kernel_rfl
end Go.Proofs.Ytjbbknjhgdmdkaa
