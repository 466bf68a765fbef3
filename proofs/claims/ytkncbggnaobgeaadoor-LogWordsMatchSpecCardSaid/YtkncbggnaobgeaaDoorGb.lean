/- Texts of this session, laid together: Ty, Ex, Code0, Code1, Code2, Code3. -/
import Derived.Test.YtkncbggnaobgeaaDoorGa
import Derived.Test.YtkncbggnaobgeaaDoorProg
import Derived.KernelRfl

/- Facts on the program's types, fields and functions, one by one. Written by a program of this session (gentypes.py). -/
namespace Go.Proofs.YtkncbggnaobgeaaDoor
open Go.RowKit
set_option maxRecDepth 100000
theorem ty3 : tyB Tryd.prog 3 false 1 = true := by kernel_rfl
theorem ty4 : tyB Tryd.prog 4 false 1 = true := by kernel_rfl
theorem ty5 : tyB Tryd.prog 5 false 1 = true := by kernel_rfl
theorem ty25 : tyB Tryd.prog 25 false 1 = true := by kernel_rfl
theorem ty30 : tyB Tryd.prog 30 false 1 = true := by kernel_rfl
theorem ty38 : tyB Tryd.prog 38 true 8 = true := by kernel_rfl
theorem ty40 : tyB Tryd.prog 40 true 9 = true := by kernel_rfl
theorem ty43 : tyB Tryd.prog 43 false 1 = true := by kernel_rfl
theorem ty47 : tyB Tryd.prog 47 false 1 = true := by kernel_rfl
theorem ty50 : tyB Tryd.prog 50 false 1 = true := by kernel_rfl
theorem ty52 : tyB Tryd.prog 52 false 1 = true := by kernel_rfl
theorem ty60 : tyB Tryd.prog 60 true 12 = true := by kernel_rfl
theorem ty66 : tyB Tryd.prog 66 false 1 = true := by kernel_rfl
theorem ty67 : tyB Tryd.prog 67 false 1 = true := by kernel_rfl
theorem ty68 : tyB Tryd.prog 68 true 2 = true := by kernel_rfl
theorem ty70 : tyB Tryd.prog 70 true 8 = true := by kernel_rfl
theorem ty77 : tyB Tryd.prog 77 true 4 = true := by kernel_rfl
theorem ty87 : tyB Tryd.prog 87 false 1 = true := by kernel_rfl
theorem ty89 : tyB Tryd.prog 89 true 3 = true := by kernel_rfl
theorem ty95 : tyB Tryd.prog 95 true 8 = true := by kernel_rfl
theorem ty98 : tyB Tryd.prog 98 false 1 = true := by kernel_rfl
theorem ty100 : tyB Tryd.prog 100 true 2 = true := by kernel_rfl
theorem ty104 : tyB Tryd.prog 104 true 5 = true := by kernel_rfl
theorem ty109 : tyB Tryd.prog 109 true 2 = true := by kernel_rfl
theorem ty111 : tyB Tryd.prog 111 true 2 = true := by kernel_rfl
theorem ty123 : tyB Tryd.prog 123 false 1 = true := by kernel_rfl
theorem ty125 : tyB Tryd.prog 125 true 2 = true := by kernel_rfl
theorem ty156 : tyB Tryd.prog 156 false 1 = true := by kernel_rfl
theorem ty158 : tyB Tryd.prog 158 true 11 = true := by kernel_rfl
theorem ty159 : tyB Tryd.prog 159 false 1 = true := by kernel_rfl
theorem ty161 : tyB Tryd.prog 161 true 4 = true := by kernel_rfl
theorem ty164 : tyB Tryd.prog 164 true 12 = true := by kernel_rfl
theorem ty184 : tyB Tryd.prog 184 true 11 = true := by kernel_rfl
theorem ty189 : tyB Tryd.prog 189 true 2 = true := by kernel_rfl
theorem ty199 : tyB Tryd.prog 199 false 1 = true := by kernel_rfl
theorem ty204 : tyB Tryd.prog 204 false 1 = true := by kernel_rfl
theorem ty206 : tyB Tryd.prog 206 true 3 = true := by kernel_rfl
theorem ty209 : tyB Tryd.prog 209 false 1 = true := by kernel_rfl
theorem ty210 : tyB Tryd.prog 210 false 1 = true := by kernel_rfl
theorem ty212 : tyB Tryd.prog 212 true 5 = true := by kernel_rfl
theorem ty220 : tyB Tryd.prog 220 true 9 = true := by kernel_rfl
theorem ty230 : tyB Tryd.prog 230 true 2 = true := by kernel_rfl
theorem ty248 : tyB Tryd.prog 248 true 2 = true := by kernel_rfl
theorem ty250 : tyB Tryd.prog 250 false 1 = true := by kernel_rfl
theorem ty252 : tyB Tryd.prog 252 true 1 = true := by kernel_rfl
theorem ty263 : tyB Tryd.prog 263 true 3 = true := by kernel_rfl
theorem fld40_0 : fieldB Tryd.prog 40 0 0 = true := by kernel_rfl
theorem fld40_1 : fieldB Tryd.prog 40 1 8 = true := by kernel_rfl
theorem fld60_0 : fieldB Tryd.prog 60 0 0 = true := by kernel_rfl
theorem fld60_1 : fieldB Tryd.prog 60 1 1 = true := by kernel_rfl
theorem fld60_2 : fieldB Tryd.prog 60 2 2 = true := by kernel_rfl
theorem fld60_3 : fieldB Tryd.prog 60 3 3 = true := by kernel_rfl
theorem fld60_4 : fieldB Tryd.prog 60 4 11 = true := by kernel_rfl
theorem fld70_0 : fieldB Tryd.prog 70 0 0 = true := by kernel_rfl
theorem fld70_1 : fieldB Tryd.prog 70 1 1 = true := by kernel_rfl
theorem fld70_2 : fieldB Tryd.prog 70 2 2 = true := by kernel_rfl
theorem fld70_3 : fieldB Tryd.prog 70 3 3 = true := by kernel_rfl
theorem fld70_4 : fieldB Tryd.prog 70 4 4 = true := by kernel_rfl
theorem fld70_5 : fieldB Tryd.prog 70 5 5 = true := by kernel_rfl
theorem fld70_6 : fieldB Tryd.prog 70 6 7 = true := by kernel_rfl
theorem fld77_0 : fieldB Tryd.prog 77 0 0 = true := by kernel_rfl
theorem fld77_1 : fieldB Tryd.prog 77 1 1 = true := by kernel_rfl
theorem fld77_2 : fieldB Tryd.prog 77 2 2 = true := by kernel_rfl
theorem fld77_3 : fieldB Tryd.prog 77 3 3 = true := by kernel_rfl
theorem fld89_0 : fieldB Tryd.prog 89 0 0 = true := by kernel_rfl
theorem fld89_1 : fieldB Tryd.prog 89 1 1 = true := by kernel_rfl
theorem fld89_2 : fieldB Tryd.prog 89 2 2 = true := by kernel_rfl
theorem fld95_0 : fieldB Tryd.prog 95 0 0 = true := by kernel_rfl
theorem fld95_1 : fieldB Tryd.prog 95 1 1 = true := by kernel_rfl
theorem fld95_2 : fieldB Tryd.prog 95 2 2 = true := by kernel_rfl
theorem fld95_3 : fieldB Tryd.prog 95 3 3 = true := by kernel_rfl
theorem fld95_4 : fieldB Tryd.prog 95 4 4 = true := by kernel_rfl
theorem fld95_5 : fieldB Tryd.prog 95 5 5 = true := by kernel_rfl
theorem fld95_6 : fieldB Tryd.prog 95 6 6 = true := by kernel_rfl
theorem fld95_7 : fieldB Tryd.prog 95 7 7 = true := by kernel_rfl
theorem fld100_0 : fieldB Tryd.prog 100 0 0 = true := by kernel_rfl
theorem fld100_1 : fieldB Tryd.prog 100 1 1 = true := by kernel_rfl
theorem fld109_0 : fieldB Tryd.prog 109 0 0 = true := by kernel_rfl
theorem fld109_1 : fieldB Tryd.prog 109 1 1 = true := by kernel_rfl
theorem fld111_0 : fieldB Tryd.prog 111 0 0 = true := by kernel_rfl
theorem fld111_1 : fieldB Tryd.prog 111 1 1 = true := by kernel_rfl
theorem fld125_0 : fieldB Tryd.prog 125 0 0 = true := by kernel_rfl
theorem fld125_1 : fieldB Tryd.prog 125 1 1 = true := by kernel_rfl
theorem fld158_0 : fieldB Tryd.prog 158 0 0 = true := by kernel_rfl
theorem fld158_1 : fieldB Tryd.prog 158 1 9 = true := by kernel_rfl
theorem fld158_2 : fieldB Tryd.prog 158 2 10 = true := by kernel_rfl
theorem fld161_0 : fieldB Tryd.prog 161 0 0 = true := by kernel_rfl
theorem fld161_1 : fieldB Tryd.prog 161 1 1 = true := by kernel_rfl
theorem fld161_2 : fieldB Tryd.prog 161 2 2 = true := by kernel_rfl
theorem fld161_3 : fieldB Tryd.prog 161 3 3 = true := by kernel_rfl
theorem fld164_0 : fieldB Tryd.prog 164 0 0 = true := by kernel_rfl
theorem fld164_1 : fieldB Tryd.prog 164 1 1 = true := by kernel_rfl
theorem fld164_2 : fieldB Tryd.prog 164 2 2 = true := by kernel_rfl
theorem fld164_3 : fieldB Tryd.prog 164 3 3 = true := by kernel_rfl
theorem fld164_4 : fieldB Tryd.prog 164 4 4 = true := by kernel_rfl
theorem fld184_0 : fieldB Tryd.prog 184 0 0 = true := by kernel_rfl
theorem fld184_1 : fieldB Tryd.prog 184 1 8 = true := by kernel_rfl
theorem fld184_2 : fieldB Tryd.prog 184 2 9 = true := by kernel_rfl
theorem fld184_3 : fieldB Tryd.prog 184 3 10 = true := by kernel_rfl
theorem fld189_0 : fieldB Tryd.prog 189 0 0 = true := by kernel_rfl
theorem fld189_1 : fieldB Tryd.prog 189 1 1 = true := by kernel_rfl
theorem fld206_0 : fieldB Tryd.prog 206 0 0 = true := by kernel_rfl
theorem fld206_1 : fieldB Tryd.prog 206 1 1 = true := by kernel_rfl
theorem fld206_2 : fieldB Tryd.prog 206 2 2 = true := by kernel_rfl
theorem fld212_0 : fieldB Tryd.prog 212 0 0 = true := by kernel_rfl
theorem fld212_1 : fieldB Tryd.prog 212 1 1 = true := by kernel_rfl
theorem fld212_2 : fieldB Tryd.prog 212 2 2 = true := by kernel_rfl
theorem fld212_3 : fieldB Tryd.prog 212 3 3 = true := by kernel_rfl
theorem fld212_4 : fieldB Tryd.prog 212 4 4 = true := by kernel_rfl
theorem fld220_0 : fieldB Tryd.prog 220 0 0 = true := by kernel_rfl
theorem fld220_1 : fieldB Tryd.prog 220 1 8 = true := by kernel_rfl
theorem fld230_0 : fieldB Tryd.prog 230 0 0 = true := by kernel_rfl
theorem fld230_1 : fieldB Tryd.prog 230 1 1 = true := by kernel_rfl
theorem fld248_0 : fieldB Tryd.prog 248 0 0 = true := by kernel_rfl
theorem fld248_1 : fieldB Tryd.prog 248 1 1 = true := by kernel_rfl
theorem fld252_0 : fieldB Tryd.prog 252 0 0 = true := by kernel_rfl
theorem fld263_0 : fieldB Tryd.prog 263 0 0 = true := by kernel_rfl
theorem fld263_1 : fieldB Tryd.prog 263 1 1 = true := by kernel_rfl
theorem fld263_2 : fieldB Tryd.prog 263 2 2 = true := by kernel_rfl
theorem arr38 : arrB Tryd.prog 38 8 1 = true := by kernel_rfl
theorem arr68 : arrB Tryd.prog 68 2 1 = true := by kernel_rfl
theorem arr249 : arrB Tryd.prog 249 2 2 = true := by kernel_rfl
theorem arr268 : arrB Tryd.prog 268 16 1 = true := by kernel_rfl
theorem arr271 : arrB Tryd.prog 271 32 1 = true := by kernel_rfl
theorem arr272 : arrB Tryd.prog 272 64 1 = true := by kernel_rfl
theorem slc23 : slcB Tryd.prog 23 9 = true := by kernel_rfl
theorem isl23 : isSlcB Tryd.prog 23 = true := by kernel_rfl
theorem slc30 : slcB Tryd.prog 30 12 = true := by kernel_rfl
theorem isl30 : isSlcB Tryd.prog 30 = true := by kernel_rfl
theorem slc35 : slcB Tryd.prog 35 12 = true := by kernel_rfl
theorem isl35 : isSlcB Tryd.prog 35 = true := by kernel_rfl
theorem slc43 : slcB Tryd.prog 43 1 = true := by kernel_rfl
theorem isl43 : isSlcB Tryd.prog 43 = true := by kernel_rfl
theorem slc45 : slcB Tryd.prog 45 8 = true := by kernel_rfl
theorem isl45 : isSlcB Tryd.prog 45 = true := by kernel_rfl
theorem slc50 : slcB Tryd.prog 50 2 = true := by kernel_rfl
theorem isl50 : isSlcB Tryd.prog 50 = true := by kernel_rfl
theorem slc52 : slcB Tryd.prog 52 2 = true := by kernel_rfl
theorem isl52 : isSlcB Tryd.prog 52 = true := by kernel_rfl
theorem slc66 : slcB Tryd.prog 66 1 = true := by kernel_rfl
theorem isl66 : isSlcB Tryd.prog 66 = true := by kernel_rfl
theorem slc71 : slcB Tryd.prog 71 4 = true := by kernel_rfl
theorem isl71 : isSlcB Tryd.prog 71 = true := by kernel_rfl
theorem slc87 : slcB Tryd.prog 87 11 = true := by kernel_rfl
theorem isl87 : isSlcB Tryd.prog 87 = true := by kernel_rfl
theorem slc92 : slcB Tryd.prog 92 2 = true := by kernel_rfl
theorem isl92 : isSlcB Tryd.prog 92 = true := by kernel_rfl
theorem slc98 : slcB Tryd.prog 98 2 = true := by kernel_rfl
theorem isl98 : isSlcB Tryd.prog 98 = true := by kernel_rfl
theorem slc123 : slcB Tryd.prog 123 2 = true := by kernel_rfl
theorem isl123 : isSlcB Tryd.prog 123 = true := by kernel_rfl
theorem slc156 : slcB Tryd.prog 156 11 = true := by kernel_rfl
theorem isl156 : isSlcB Tryd.prog 156 = true := by kernel_rfl
theorem slc199 : slcB Tryd.prog 199 3 = true := by kernel_rfl
theorem isl199 : isSlcB Tryd.prog 199 = true := by kernel_rfl
theorem slc256 : slcB Tryd.prog 256 1 = true := by kernel_rfl
theorem isl256 : isSlcB Tryd.prog 256 = true := by kernel_rfl
theorem int3 : intB Tryd.prog 3 .i64 = true := by kernel_rfl
theorem int5 : intB Tryd.prog 5 .u8 = true := by kernel_rfl
theorem int67 : intB Tryd.prog 67 .u16 = true := by kernel_rfl
theorem int138 : intB Tryd.prog 138 .u32 = true := by kernel_rfl
theorem int214 : intB Tryd.prog 214 .u64 = true := by kernel_rfl
theorem int250 : intB Tryd.prog 250 .u64 = true := by kernel_rfl
theorem zer3 : ZeroIs Tryd.prog 3 #[.int .i64 0] := zeroIs_of (u := .int .i64 0) (by kernel_rfl) rfl
theorem zer4 : ZeroIs Tryd.prog 4 #[.bool false] := zeroIs_of (u := .bool false) (by kernel_rfl) rfl
theorem zer5 : ZeroIs Tryd.prog 5 #[.int .u8 0] := zeroIs_of (u := .int .u8 0) (by kernel_rfl) rfl
theorem zer38 : ZeroIs Tryd.prog 38 #[.int .i64 0, .int .i64 0, .int .i64 0, .int .i64 0, .int .i64 0, .int .i64 0, .int .i64 0, .int .i64 0] := zeroIs_of (u := .agg #[.int .i64 0, .int .i64 0, .int .i64 0, .int .i64 0, .int .i64 0, .int .i64 0, .int .i64 0, .int .i64 0]) (by kernel_rfl) rfl
theorem zer40 : ZeroIs Tryd.prog 40 #[.int .i64 0, .int .i64 0, .int .i64 0, .int .i64 0, .int .i64 0, .int .i64 0, .int .i64 0, .int .i64 0, .int .i64 0] := zeroIs_of (u := .agg #[.int .i64 0, .int .i64 0, .int .i64 0, .int .i64 0, .int .i64 0, .int .i64 0, .int .i64 0, .int .i64 0, .int .i64 0]) (by kernel_rfl) rfl
theorem zer47 : ZeroIs Tryd.prog 47 #[.int .i64 0] := zeroIs_of (u := .int .i64 0) (by kernel_rfl) rfl
theorem zer77 : ZeroIs Tryd.prog 77 #[.int .i64 0, .int .i64 0, .int .i64 0, .int .i64 0] := zeroIs_of (u := .agg #[.int .i64 0, .int .i64 0, .int .i64 0, .int .i64 0]) (by kernel_rfl) rfl
theorem zer89 : ZeroIs Tryd.prog 89 #[.slice none 0 0, .int .i64 0, .slice none 0 0] := zeroIs_of (u := .agg #[.slice none 0 0, .int .i64 0, .slice none 0 0]) (by kernel_rfl) rfl
theorem zer95 : ZeroIs Tryd.prog 95 #[.int .i64 0, .int .i64 0, .int .i64 0, .int .i64 0, .int .i64 0, .int .i64 0, .int .i64 0, .int .i64 0] := zeroIs_of (u := .agg #[.int .i64 0, .int .i64 0, .int .i64 0, .int .i64 0, .int .i64 0, .int .i64 0, .int .i64 0, .int .i64 0]) (by kernel_rfl) rfl
theorem zer104 : ZeroIs Tryd.prog 104 #[.int .i64 0, .int .i64 0, .int .i64 0, .int .i64 0, .slice none 0 0] := zeroIs_of (u := .agg #[.int .i64 0, .int .i64 0, .int .i64 0, .int .i64 0, .slice none 0 0]) (by kernel_rfl) rfl
theorem zer109 : ZeroIs Tryd.prog 109 #[.int .i64 0, .int .i64 0] := zeroIs_of (u := .agg #[.int .i64 0, .int .i64 0]) (by kernel_rfl) rfl
theorem zer111 : ZeroIs Tryd.prog 111 #[.int .i64 0, .int .i64 0] := zeroIs_of (u := .agg #[.int .i64 0, .int .i64 0]) (by kernel_rfl) rfl
theorem zer125 : ZeroIs Tryd.prog 125 #[.int .i64 0, .slice none 0 0] := zeroIs_of (u := .agg #[.int .i64 0, .slice none 0 0]) (by kernel_rfl) rfl
theorem zer158 : ZeroIs Tryd.prog 158 #[.int .i64 0, .int .i64 0, .int .i64 0, .int .i64 0, .int .i64 0, .int .i64 0, .int .i64 0, .int .i64 0, .int .i64 0, .slice none 0 0, .int .i64 0] := zeroIs_of (u := .agg #[.int .i64 0, .int .i64 0, .int .i64 0, .int .i64 0, .int .i64 0, .int .i64 0, .int .i64 0, .int .i64 0, .int .i64 0, .slice none 0 0, .int .i64 0]) (by kernel_rfl) rfl
theorem zer161 : ZeroIs Tryd.prog 161 #[.slice none 0 0, .map none, .int .i64 0, .slice none 0 0] := zeroIs_of (u := .agg #[.slice none 0 0, .map none, .int .i64 0, .slice none 0 0]) (by kernel_rfl) rfl
theorem zer164 : ZeroIs Tryd.prog 164 #[.int .i64 0, .int .i64 0, .int .i64 0, .int .i64 0, .int .i64 0, .int .i64 0, .int .i64 0, .int .i64 0, .int .i64 0, .int .i64 0, .int .i64 0, .int .i64 0] := zeroIs_of (u := .agg #[.int .i64 0, .int .i64 0, .int .i64 0, .int .i64 0, .int .i64 0, .int .i64 0, .int .i64 0, .int .i64 0, .int .i64 0, .int .i64 0, .int .i64 0, .int .i64 0]) (by kernel_rfl) rfl
theorem zer184 : ZeroIs Tryd.prog 184 #[.int .i64 0, .int .i64 0, .int .i64 0, .int .i64 0, .int .i64 0, .int .i64 0, .int .i64 0, .int .i64 0, .int .i64 0, .slice none 0 0, .int .i64 0] := zeroIs_of (u := .agg #[.int .i64 0, .int .i64 0, .int .i64 0, .int .i64 0, .int .i64 0, .int .i64 0, .int .i64 0, .int .i64 0, .int .i64 0, .slice none 0 0, .int .i64 0]) (by kernel_rfl) rfl
theorem zer189 : ZeroIs Tryd.prog 189 #[.int .i64 0, .int .i64 0] := zeroIs_of (u := .agg #[.int .i64 0, .int .i64 0]) (by kernel_rfl) rfl
theorem zer199 : ZeroIs Tryd.prog 199 #[.slice none 0 0] := zeroIs_of (u := .slice none 0 0) (by kernel_rfl) rfl
theorem zer206 : ZeroIs Tryd.prog 206 #[.int .i64 0, .int .i64 0, .slice none 0 0] := zeroIs_of (u := .agg #[.int .i64 0, .int .i64 0, .slice none 0 0]) (by kernel_rfl) rfl
theorem zer212 : ZeroIs Tryd.prog 212 #[.slice none 0 0, .slice none 0 0, .slice none 0 0, .map none, .map none] := zeroIs_of (u := .agg #[.slice none 0 0, .slice none 0 0, .slice none 0 0, .map none, .map none]) (by kernel_rfl) rfl
theorem zer220 : ZeroIs Tryd.prog 220 #[.int .i64 0, .int .i64 0, .int .i64 0, .int .i64 0, .int .i64 0, .int .i64 0, .int .i64 0, .int .i64 0, .slice none 0 0] := zeroIs_of (u := .agg #[.int .i64 0, .int .i64 0, .int .i64 0, .int .i64 0, .int .i64 0, .int .i64 0, .int .i64 0, .int .i64 0, .slice none 0 0]) (by kernel_rfl) rfl
theorem zer230 : ZeroIs Tryd.prog 230 #[.int .i64 0, .int .i64 0] := zeroIs_of (u := .agg #[.int .i64 0, .int .i64 0]) (by kernel_rfl) rfl
theorem zer252 : ZeroIs Tryd.prog 252 #[.int .u64 0] := zeroIs_of (u := .agg #[.int .u64 0]) (by kernel_rfl) rfl
theorem zer263 : ZeroIs Tryd.prog 263 #[.int .i64 0, .int .i64 0, .int .i64 0] := zeroIs_of (u := .agg #[.int .i64 0, .int .i64 0, .int .i64 0]) (by kernel_rfl) rfl
theorem pla40 : placesOf Tryd.prog 40 = some [(0, 8), (8, 1)] := by kernel_rfl
theorem pla77 : placesOf Tryd.prog 77 = some [(0, 1), (1, 1), (2, 1), (3, 1)] := by kernel_rfl
theorem pla89 : placesOf Tryd.prog 89 = some [(0, 1), (1, 1), (2, 1)] := by kernel_rfl
theorem pla95 : placesOf Tryd.prog 95 = some [(0, 1), (1, 1), (2, 1), (3, 1), (4, 1), (5, 1), (6, 1), (7, 1)] := by kernel_rfl
theorem pla104 : placesOf Tryd.prog 104 = some [(0, 1), (1, 1), (2, 1), (3, 1), (4, 1)] := by kernel_rfl
theorem pla109 : placesOf Tryd.prog 109 = some [(0, 1), (1, 1)] := by kernel_rfl
theorem pla111 : placesOf Tryd.prog 111 = some [(0, 1), (1, 1)] := by kernel_rfl
theorem pla125 : placesOf Tryd.prog 125 = some [(0, 1), (1, 1)] := by kernel_rfl
theorem pla158 : placesOf Tryd.prog 158 = some [(0, 9), (9, 1), (10, 1)] := by kernel_rfl
theorem pla161 : placesOf Tryd.prog 161 = some [(0, 1), (1, 1), (2, 1), (3, 1)] := by kernel_rfl
theorem pla164 : placesOf Tryd.prog 164 = some [(0, 1), (1, 1), (2, 1), (3, 1), (4, 8)] := by kernel_rfl
theorem pla184 : placesOf Tryd.prog 184 = some [(0, 8), (8, 1), (9, 1), (10, 1)] := by kernel_rfl
theorem pla189 : placesOf Tryd.prog 189 = some [(0, 1), (1, 1)] := by kernel_rfl
theorem pla206 : placesOf Tryd.prog 206 = some [(0, 1), (1, 1), (2, 1)] := by kernel_rfl
theorem pla212 : placesOf Tryd.prog 212 = some [(0, 1), (1, 1), (2, 1), (3, 1), (4, 1)] := by kernel_rfl
theorem pla220 : placesOf Tryd.prog 220 = some [(0, 8), (8, 1)] := by kernel_rfl
theorem pla230 : placesOf Tryd.prog 230 = some [(0, 1), (1, 1)] := by kernel_rfl
theorem pla252 : placesOf Tryd.prog 252 = some [(0, 1)] := by kernel_rfl
theorem pla263 : placesOf Tryd.prog 263 = some [(0, 1), (1, 1), (2, 1)] := by kernel_rfl
theorem call22 : callB Tryd.prog 22 = true := by kernel_rfl
theorem call23 : callB Tryd.prog 23 = true := by kernel_rfl
theorem call24 : callB Tryd.prog 24 = true := by kernel_rfl
theorem call25 : callB Tryd.prog 25 = true := by kernel_rfl
theorem call26 : callB Tryd.prog 26 = true := by kernel_rfl
theorem call27 : callB Tryd.prog 27 = true := by kernel_rfl
theorem call28 : callB Tryd.prog 28 = true := by kernel_rfl
theorem call29 : callB Tryd.prog 29 = true := by kernel_rfl
theorem call30 : callB Tryd.prog 30 = true := by kernel_rfl
theorem call31 : callB Tryd.prog 31 = true := by kernel_rfl
theorem call32 : callB Tryd.prog 32 = true := by kernel_rfl
theorem call33 : callB Tryd.prog 33 = true := by kernel_rfl
theorem call34 : callB Tryd.prog 34 = true := by kernel_rfl
theorem call35 : callB Tryd.prog 35 = true := by kernel_rfl
theorem call36 : callB Tryd.prog 36 = true := by kernel_rfl
theorem call37 : callB Tryd.prog 37 = true := by kernel_rfl
theorem call38 : callB Tryd.prog 38 = true := by kernel_rfl
theorem call39 : callB Tryd.prog 39 = true := by kernel_rfl
theorem call40 : callB Tryd.prog 40 = true := by kernel_rfl
theorem call41 : callB Tryd.prog 41 = true := by kernel_rfl
theorem call42 : callB Tryd.prog 42 = true := by kernel_rfl
theorem call43 : callB Tryd.prog 43 = true := by kernel_rfl
theorem call44 : callB Tryd.prog 44 = true := by kernel_rfl
theorem call45 : callB Tryd.prog 45 = true := by kernel_rfl
theorem call46 : callB Tryd.prog 46 = true := by kernel_rfl
theorem call47 : callB Tryd.prog 47 = true := by kernel_rfl
theorem call48 : callB Tryd.prog 48 = true := by kernel_rfl
theorem call49 : callB Tryd.prog 49 = true := by kernel_rfl
theorem call50 : callB Tryd.prog 50 = true := by kernel_rfl
theorem call51 : callB Tryd.prog 51 = true := by kernel_rfl
theorem call52 : callB Tryd.prog 52 = true := by kernel_rfl
theorem call53 : callB Tryd.prog 53 = true := by kernel_rfl
theorem call54 : callB Tryd.prog 54 = true := by kernel_rfl
theorem call55 : callB Tryd.prog 55 = true := by kernel_rfl
theorem call56 : callB Tryd.prog 56 = true := by kernel_rfl
theorem call57 : callB Tryd.prog 57 = true := by kernel_rfl
theorem call58 : callB Tryd.prog 58 = true := by kernel_rfl
theorem call59 : callB Tryd.prog 59 = true := by kernel_rfl
theorem call60 : callB Tryd.prog 60 = true := by kernel_rfl
theorem call61 : callB Tryd.prog 61 = true := by kernel_rfl
theorem call62 : callB Tryd.prog 62 = true := by kernel_rfl
theorem call63 : callB Tryd.prog 63 = true := by kernel_rfl
theorem call64 : callB Tryd.prog 64 = true := by kernel_rfl
theorem call65 : callB Tryd.prog 65 = true := by kernel_rfl
theorem call66 : callB Tryd.prog 66 = true := by kernel_rfl
theorem call67 : callB Tryd.prog 67 = true := by kernel_rfl
theorem call68 : callB Tryd.prog 68 = true := by kernel_rfl
theorem call69 : callB Tryd.prog 69 = true := by kernel_rfl
theorem call70 : callB Tryd.prog 70 = true := by kernel_rfl
theorem call71 : callB Tryd.prog 71 = true := by kernel_rfl
theorem call72 : callB Tryd.prog 72 = true := by kernel_rfl
theorem call73 : callB Tryd.prog 73 = true := by kernel_rfl
theorem call74 : callB Tryd.prog 74 = true := by kernel_rfl
theorem call75 : callB Tryd.prog 75 = true := by kernel_rfl
theorem call76 : callB Tryd.prog 76 = true := by kernel_rfl
theorem call77 : callB Tryd.prog 77 = true := by kernel_rfl
theorem call78 : callB Tryd.prog 78 = true := by kernel_rfl
theorem call79 : callB Tryd.prog 79 = true := by kernel_rfl
theorem call80 : callB Tryd.prog 80 = true := by kernel_rfl
theorem call81 : callB Tryd.prog 81 = true := by kernel_rfl
theorem call82 : callB Tryd.prog 82 = true := by kernel_rfl
theorem call83 : callB Tryd.prog 83 = true := by kernel_rfl
theorem call84 : callB Tryd.prog 84 = true := by kernel_rfl
theorem call85 : callB Tryd.prog 85 = true := by kernel_rfl
theorem call86 : callB Tryd.prog 86 = true := by kernel_rfl
theorem call87 : callB Tryd.prog 87 = true := by kernel_rfl
theorem call88 : callB Tryd.prog 88 = true := by kernel_rfl
theorem call89 : callB Tryd.prog 89 = true := by kernel_rfl
theorem call90 : callB Tryd.prog 90 = true := by kernel_rfl
theorem call91 : callB Tryd.prog 91 = true := by kernel_rfl
theorem call92 : callB Tryd.prog 92 = true := by kernel_rfl
theorem call93 : callB Tryd.prog 93 = true := by kernel_rfl
theorem call94 : callB Tryd.prog 94 = true := by kernel_rfl
theorem call95 : callB Tryd.prog 95 = true := by kernel_rfl
theorem call96 : callB Tryd.prog 96 = true := by kernel_rfl
theorem call97 : callB Tryd.prog 97 = true := by kernel_rfl
theorem call98 : callB Tryd.prog 98 = true := by kernel_rfl
theorem call99 : callB Tryd.prog 99 = true := by kernel_rfl
theorem call100 : callB Tryd.prog 100 = true := by kernel_rfl
theorem call101 : callB Tryd.prog 101 = true := by kernel_rfl
theorem call102 : callB Tryd.prog 102 = true := by kernel_rfl
theorem call103 : callB Tryd.prog 103 = true := by kernel_rfl
theorem call104 : callB Tryd.prog 104 = true := by kernel_rfl
theorem call105 : callB Tryd.prog 105 = true := by kernel_rfl
theorem call106 : callB Tryd.prog 106 = true := by kernel_rfl
theorem call107 : callB Tryd.prog 107 = true := by kernel_rfl
theorem call108 : callB Tryd.prog 108 = true := by kernel_rfl
theorem call109 : callB Tryd.prog 109 = true := by kernel_rfl
theorem call110 : callB Tryd.prog 110 = true := by kernel_rfl
theorem call111 : callB Tryd.prog 111 = true := by kernel_rfl
theorem call112 : callB Tryd.prog 112 = true := by kernel_rfl
theorem call113 : callB Tryd.prog 113 = true := by kernel_rfl
theorem call114 : callB Tryd.prog 114 = true := by kernel_rfl
theorem call115 : callB Tryd.prog 115 = true := by kernel_rfl
theorem call116 : callB Tryd.prog 116 = true := by kernel_rfl
theorem call117 : callB Tryd.prog 117 = true := by kernel_rfl
theorem call118 : callB Tryd.prog 118 = true := by kernel_rfl
theorem call119 : callB Tryd.prog 119 = true := by kernel_rfl
theorem call120 : callB Tryd.prog 120 = true := by kernel_rfl
theorem call121 : callB Tryd.prog 121 = true := by kernel_rfl
theorem call122 : callB Tryd.prog 122 = true := by kernel_rfl
theorem call123 : callB Tryd.prog 123 = true := by kernel_rfl
theorem call124 : callB Tryd.prog 124 = true := by kernel_rfl
theorem call125 : callB Tryd.prog 125 = true := by kernel_rfl
theorem call126 : callB Tryd.prog 126 = true := by kernel_rfl
theorem call127 : callB Tryd.prog 127 = true := by kernel_rfl
theorem call128 : callB Tryd.prog 128 = true := by kernel_rfl
theorem call129 : callB Tryd.prog 129 = true := by kernel_rfl
theorem call130 : callB Tryd.prog 130 = true := by kernel_rfl
theorem call131 : callB Tryd.prog 131 = true := by kernel_rfl
theorem call132 : callB Tryd.prog 132 = true := by kernel_rfl
theorem call133 : callB Tryd.prog 133 = true := by kernel_rfl
theorem call134 : callB Tryd.prog 134 = true := by kernel_rfl
theorem call135 : callB Tryd.prog 135 = true := by kernel_rfl
theorem call136 : callB Tryd.prog 136 = true := by kernel_rfl
theorem call137 : callB Tryd.prog 137 = true := by kernel_rfl
theorem call138 : callB Tryd.prog 138 = true := by kernel_rfl
theorem call139 : callB Tryd.prog 139 = true := by kernel_rfl
theorem call140 : callB Tryd.prog 140 = true := by kernel_rfl
theorem call141 : callB Tryd.prog 141 = true := by kernel_rfl
theorem call142 : callB Tryd.prog 142 = true := by kernel_rfl
theorem call143 : callB Tryd.prog 143 = true := by kernel_rfl
theorem call144 : callB Tryd.prog 144 = true := by kernel_rfl
theorem call145 : callB Tryd.prog 145 = true := by kernel_rfl
theorem call146 : callB Tryd.prog 146 = true := by kernel_rfl
theorem call147 : callB Tryd.prog 147 = true := by kernel_rfl
theorem call148 : callB Tryd.prog 148 = true := by kernel_rfl
theorem call149 : callB Tryd.prog 149 = true := by kernel_rfl
theorem call150 : callB Tryd.prog 150 = true := by kernel_rfl
theorem call151 : callB Tryd.prog 151 = true := by kernel_rfl
theorem call152 : callB Tryd.prog 152 = true := by kernel_rfl
theorem call153 : callB Tryd.prog 153 = true := by kernel_rfl
theorem call154 : callB Tryd.prog 154 = true := by kernel_rfl
theorem call155 : callB Tryd.prog 155 = true := by kernel_rfl
theorem call156 : callB Tryd.prog 156 = true := by kernel_rfl
theorem call157 : callB Tryd.prog 157 = true := by kernel_rfl
theorem call158 : callB Tryd.prog 158 = true := by kernel_rfl
theorem call159 : callB Tryd.prog 159 = true := by kernel_rfl
theorem call160 : callB Tryd.prog 160 = true := by kernel_rfl
theorem call161 : callB Tryd.prog 161 = true := by kernel_rfl
theorem call162 : callB Tryd.prog 162 = true := by kernel_rfl
theorem call163 : callB Tryd.prog 163 = true := by kernel_rfl
theorem call164 : callB Tryd.prog 164 = true := by kernel_rfl
theorem call166 : callB Tryd.prog 166 = true := by kernel_rfl
theorem call167 : callB Tryd.prog 167 = true := by kernel_rfl
theorem call168 : callB Tryd.prog 168 = true := by kernel_rfl
theorem call169 : callB Tryd.prog 169 = true := by kernel_rfl
theorem call170 : callB Tryd.prog 170 = true := by kernel_rfl
theorem call171 : callB Tryd.prog 171 = true := by kernel_rfl
theorem call172 : callB Tryd.prog 172 = true := by kernel_rfl
theorem call173 : callB Tryd.prog 173 = true := by kernel_rfl
theorem call174 : callB Tryd.prog 174 = true := by kernel_rfl
theorem call175 : callB Tryd.prog 175 = true := by kernel_rfl
theorem call176 : callB Tryd.prog 176 = true := by kernel_rfl
theorem call177 : callB Tryd.prog 177 = true := by kernel_rfl
theorem call178 : callB Tryd.prog 178 = true := by kernel_rfl
theorem call179 : callB Tryd.prog 179 = true := by kernel_rfl
theorem call180 : callB Tryd.prog 180 = true := by kernel_rfl
theorem call181 : callB Tryd.prog 181 = true := by kernel_rfl
theorem call182 : callB Tryd.prog 182 = true := by kernel_rfl
theorem call183 : callB Tryd.prog 183 = true := by kernel_rfl
theorem call184 : callB Tryd.prog 184 = true := by kernel_rfl
theorem call185 : callB Tryd.prog 185 = true := by kernel_rfl
theorem call186 : callB Tryd.prog 186 = true := by kernel_rfl
theorem call187 : callB Tryd.prog 187 = true := by kernel_rfl
theorem call188 : callB Tryd.prog 188 = true := by kernel_rfl
theorem call189 : callB Tryd.prog 189 = true := by kernel_rfl
theorem call190 : callB Tryd.prog 190 = true := by kernel_rfl
theorem call191 : callB Tryd.prog 191 = true := by kernel_rfl
theorem call192 : callB Tryd.prog 192 = true := by kernel_rfl
theorem call193 : callB Tryd.prog 193 = true := by kernel_rfl
theorem call194 : callB Tryd.prog 194 = true := by kernel_rfl
theorem call195 : callB Tryd.prog 195 = true := by kernel_rfl
theorem call196 : callB Tryd.prog 196 = true := by kernel_rfl
theorem call197 : callB Tryd.prog 197 = true := by kernel_rfl
theorem call198 : callB Tryd.prog 198 = true := by kernel_rfl
theorem call199 : callB Tryd.prog 199 = true := by kernel_rfl
theorem call200 : callB Tryd.prog 200 = true := by kernel_rfl
theorem call201 : callB Tryd.prog 201 = true := by kernel_rfl
theorem call202 : callB Tryd.prog 202 = true := by kernel_rfl
theorem call204 : callB Tryd.prog 204 = true := by kernel_rfl
theorem call205 : callB Tryd.prog 205 = true := by kernel_rfl
theorem call206 : callB Tryd.prog 206 = true := by kernel_rfl
theorem call207 : callB Tryd.prog 207 = true := by kernel_rfl
theorem call208 : callB Tryd.prog 208 = true := by kernel_rfl
theorem call209 : callB Tryd.prog 209 = true := by kernel_rfl
theorem call210 : callB Tryd.prog 210 = true := by kernel_rfl
theorem call211 : callB Tryd.prog 211 = true := by kernel_rfl
theorem call212 : callB Tryd.prog 212 = true := by kernel_rfl
theorem call213 : callB Tryd.prog 213 = true := by kernel_rfl
theorem call214 : callB Tryd.prog 214 = true := by kernel_rfl
theorem call215 : callB Tryd.prog 215 = true := by kernel_rfl
theorem call216 : callB Tryd.prog 216 = true := by kernel_rfl
theorem call217 : callB Tryd.prog 217 = true := by kernel_rfl
theorem call218 : callB Tryd.prog 218 = true := by kernel_rfl
end Go.Proofs.YtkncbggnaobgeaaDoor

/- Operations that leave the world as it is, as equations on the run; regions that draw their order. Printed by a program of this session (genex.py) out of the engine. -/
namespace Go.Proofs.YtkncbggnaobgeaaDoor
open Go.RowKit
set_option linter.unusedVariables false
set_option linter.unusedSimpArgs false
set_option maxRecDepth 100000

section
variable {P : Program} {n : Nat} {ds : List Deferred} {e e' : Env} {w w0 : World} {S : List Nat} {H : Hp} {d : Nat} {v : Value} {ty : TypeId} {ws ws' : List Int}

/-- In every frame that holds e the operation yields v and leaves the world. -/
def EX (P : Program) (n : Nat) (ds : List Deferred) (e : Env) (op : Op) (ty : TypeId) (v : Value) (w : World) : Prop :=
  ∀ a, Holds a n ds e → ∀ {dst : Option Tmp} {pos : String} {af : Array Edge} {g : Option (Nat × Bool)}, (execOp a.eval { dst := dst, op := op, type := ty, pos := pos, after := af, guard := g }).run P w = .ok (.value v) w
theorem EX.builtin {b : Builtin} {xs : List Operand} {vs : List Value} {ats : Array TypeId} (hxs : evs e xs = some vs)
    (hrun : ∀ cs, (Go.builtin b ats ty cs vs.toArray).run P w = .ok (.value v) w) : EX P n ds e (.call { callee := .builtin b, args := xs.toArray, argTypes := ats }) ty v w := fun a ha => by
  intro _ _ _ _
  rw [BigFrame.execOp_builtin, List.map_toArray, List.map_toArray, ha.evs hxs]
  exact hrun _

theorem EX.move {x : Operand} (hx : ev e x = some v)   : EX P n ds e (.move x) ty (v) w := (fun a ha {_ _ _ _} => by simp only [execOp, ha.ev hx, Sem.run_pure])

theorem EX.assign {x : Operand} (hx : ev e x = some v)   : EX P n ds e (.assign x) ty (v) w := (fun a ha {_ _ _ _} => by simp only [execOp, ha.ev hx, Sem.run_pure])

theorem EX.pickT {c x y : Operand} (hc : ev e c = some (.bool true)) (hx : ev e x = some v)   : EX P n ds e (.pick c x y) ty (v) w := (fun a ha {_ _ _ _} => by simp only [execOp, ha.ev hc, ha.ev hx, Sem.run_pure, Sem.run_bind, asBool, Result.andThen_ok, if_true])

theorem EX.pickF {c x y : Operand} (hc : ev e c = some (.bool false)) (hy : ev e y = some v)   : EX P n ds e (.pick c x y) ty (v) w := (fun a ha {_ _ _ _} => by simp only [execOp, ha.ev hc, ha.ev hy, Sem.run_pure, Sem.run_bind, asBool, Result.andThen_ok, Bool.false_eq_true, if_false])

theorem EX.extract {x : Operand} {vs : List Value} {i : Nat} (hx : ev e x = some (.tuple vs.toArray)) (hi : vs[i]? = some v)   : EX P n ds e (.extract x i) ty (v) w := (fun a ha {_ _ _ _} => by simp [execOp, ha.ev hx, Instr.extract, hi])

theorem EX.nilCheck {x : Operand} {ad : Addr} (hx : ev e x = some (.pointer (some ad)))   : EX P n ds e (.nilCheck x) ty (.pointer (some ad)) w := (fun a ha {_ _ _ _} => by simp only [execOp, ha.ev hx, Sem.run_pure])

theorem EX.nilCheckFn {x : Operand} {f : FuncId} {fi ca : Array Value} (hx : ev e x = some (.func (.func f) fi ca))   : EX P n ds e (.nilCheck x) ty (.func (.func f) fi ca) w := (fun a ha {_ _ _ _} => by simp only [execOp, ha.ev hx, Sem.run_pure])

theorem EX.bin {op : BinOp} {t yt : TypeId} {x y : Operand} {u u' r : Value} (hx : ev e x = some u) (hy : ev e y = some u') (hr : BinV P op t u u' r) 
     : EX P n ds e (.binOp op t x y yt) ty (r) w := (fun a ha {_ _ _ _} => by
    have := hr x y w
    simp only [Sem.run_bind] at this
    simp only [execOp, ha.ev hx, ha.ev hy, Sem.run_bind, this, Result.andThen_ok, Sem.run_pure])

theorem EX.notOp {t : TypeId} {x : Operand} {b : Bool} (hx : ev e x = some (.bool b)) 
     : EX P n ds e (.unOp .not t x) ty (.bool (!b)) w := (fun a ha {_ _ _ _} => by simp only [execOp, ha.ev hx, Op.unary, Sem.run_bind, Sem.run_pure, Result.andThen_ok])

theorem EX.negOp {t : TypeId} {x : Operand} {k : IntKind} {z : Int} (hx : ev e x = some (.int k z)) 
     : EX P n ds e (.unOp .neg t x) ty (.int k (k.wrap (0 - z))) w := (fun a ha {_ _ _ _} => by simp only [execOp, ha.ev hx, Op.unary, Op.intArith, Sem.run_bind, Sem.run_pure, Result.andThen_ok])

theorem EX.fieldAddr {T : TypeId} {i off b o : Nat} {x : Operand} (hT : fieldB P T i off = true) (hx : ev e x = some (.pointer (some ⟨b, o, none⟩))) 
     : EX P n ds e (.fieldAddr T x i) ty (.pointer (some ⟨b, o + off, none⟩)) w := (fun a ha {_ _ _ _} => by simp only [execOp, ha.ev hx, Sem.run_bind, run_fieldAt hT, Result.andThen_ok, Sem.run_pure])

theorem EX.idxArr {T : TypeId} {len sz b o k : Nat} {x y : Operand} {kd : IntKind} {z : Int} (hT : arrB P T len sz = true) (hx : ev e x = some (.pointer (some ⟨b, o, none⟩))) (hy : ev e y = some (.int kd z)) (hz : z = (k : Int)) (hk : k < len) 
     : EX P n ds e (.indexAddr T x y) ty (.pointer (some ⟨b, o + k * sz, none⟩)) w := by
  subst hz
  obtain ⟨el, i, hu, hi, hs⟩ := arrB_out hT
  intro a ha _ _ _ _
  have h1 : (0 : Int) ≤ (k : Int) ∧ (k : Int) < (len : Int) := by omega
  simp only [execOp, ha.ev hx, ha.ev hy, Instr.indexAt, asIntOf, Sem.run_bind, Sem.run_pure, Result.andThen_ok, run_underlying hu, Instr.sureAddr, h1, and_self, if_true, sizeOf, typeInfo, run_program, hi, hs, Int.toNat_natCast, addr_add]

theorem EX.idxSlc {T : TypeId} {sz b o k len cap : Nat} {x y : Operand} {kd : IntKind} {z : Int} (hT : slcB P T sz = true) (hx : ev e x = some (.slice (some ⟨b, o, none⟩) len cap)) (hy : ev e y = some (.int kd z)) (hz : z = (k : Int)) (hk : k < len) 
     : EX P n ds e (.indexAddr T x y) ty (.pointer (some ⟨b, o + k * sz, none⟩)) w := by
  subst hz
  obtain ⟨el, i, hu, hi, hs⟩ := slcB_out hT
  intro a ha _ _ _ _
  have h1 : (0 : Int) ≤ (k : Int) ∧ (k : Int) < (len : Int) := by omega
  simp only [execOp, ha.ev hx, ha.ev hy, Instr.indexAt, asIntOf, Sem.run_bind, Sem.run_pure, Result.andThen_ok, run_underlying hu, h1, and_self, if_true, sizeOf, typeInfo, run_program, hi, hs, Int.toNat_natCast, addr_add]

theorem EX.load {T : TypeId} {x : Operand} {ad : Addr} (hx : ev e x = some (.pointer (some ad))) (hr : Rd P w T ad v) 
     : EX P n ds e (.load T x) ty (v) w := (fun a ha {_ _ _ _} => by
    unfold Rd at hr
    simp only [execOp, ha.ev hx, Instr.loadAt, Instr.sureAddr, Sem.run_bind, Sem.run_pure, Result.andThen_ok, hr])

theorem EX.makeFunc {fn : Fn} {xs ys : List Operand} {us vs : List Value} (hxs : evs e xs = some us) (hys : evs e ys = some vs) 
     : EX P n ds e (.makeFunc fn xs.toArray ys.toArray) ty (.func fn us.toArray vs.toArray) w := (fun a ha {_ _ _ _} => by
    simp only [execOp, Instr.makeFunc, Sem.run_bind, Sem.run_pure, Result.andThen_ok, List.map_toArray, ha.evs hxs, ha.evs hys])

theorem EX.lenSlc {x : Operand} {T : TypeId} {A : Option Addr} {len cap : Nat} (hT : isSlcB P T = true) (hx : ev e x = some (.slice A len cap)) 
     : EX P n ds e (.call { callee := .builtin .len, args := #[x], argTypes := #[T] }) ty (.int .i64 (len : Int)) w := by
  obtain ⟨el, hu⟩ := isSlcB_out hT
  refine EX.builtin (xs := [x]) (vs := [.slice A len cap]) (by simp [evs, hx]) (fun cs => ?_)
  simp [BigFrame.builtin_len, Builtin.len_, run_underlying hu, goInt]

theorem EX.max2 {x y : Operand} {k k' : IntKind} {a b : Int} {ats : Array TypeId} (hx : ev e x = some (.int k a)) (hy : ev e y = some (.int k' b)) 
     : EX P n ds e (.call { callee := .builtin .max, args := #[x, y], argTypes := ats }) ty (.int k (if b > a then b else a)) w := by
  refine EX.builtin (xs := [x, y]) (vs := [.int k a, .int k' b]) (by simp [evs, hx, hy]) (fun cs => ?_)
  simp [BigFrame.builtin_max, Builtin.max_, Builtin.max2]

theorem EX.min2 {x y : Operand} {k k' : IntKind} {a b : Int} {ats : Array TypeId} (hx : ev e x = some (.int k a)) (hy : ev e y = some (.int k' b)) 
     : EX P n ds e (.call { callee := .builtin .min, args := #[x, y], argTypes := ats }) ty (.int k (if b < a then b else a)) w := by
  refine EX.builtin (xs := [x, y]) (vs := [.int k a, .int k' b]) (by simp [evs, hx, hy]) (fun cs => ?_)
  simp [BigFrame.builtin_min, Builtin.min_, Builtin.min2]

theorem EX.convert {src dst : TypeId} {x : Operand} {k k' k'' : IntKind} {z r : Int} (hsrc : intB P src k'' = true) (hdst : intB P dst k = true) (hx : ev e x = some (.int k' z)) (hr : k.wrap z = r) 
     : EX P n ds e (.convert src dst x) ty (.int k r) w := (fun a ha {_ _ _ _} => by
    simp only [execOp, ha.ev hx, Go.convert, Sem.run_bind, run_underlying (intB_out hsrc), run_underlying (intB_out hdst), Result.andThen_ok, Conv.intToInt, Sem.run_pure, hr])

theorem EX.indexStr {T : TypeId} {x y : Operand} {s : ByteArray} {k m : Nat} {g : Nat → Nat} {kd : IntKind} {z : Int} (hT : P.underlying T = some .string) (hx : ev e x = some (.string s)) (hy : ev e y = some (.int kd z)) (hz : z = (k : Int))
    (hb : ∀ i, i < m → (s[i]?).map (·.toNat) = some (g i)) (hk : k < m) 
     : EX P n ds e (.index T x y) ty (.int .u8 (g k : Int)) w := by
  subst hz
  intro a ha _ _ _ _
  have hb' := hb k hk
  cases hs : s[k]? with
  | none => rw [hs] at hb'; cases hb'
  | some b =>
    rw [hs] at hb'
    simp only [Option.map_some, Option.some.injEq] at hb'
    have h1 : (0 : Int) ≤ (k : Int) := by omega
    simp only [execOp, ha.ev hx, ha.ev hy, Instr.index, asIntOf, Sem.run_bind, Sem.run_pure, Result.andThen_ok, run_underlying hT, h1, if_true, Int.toNat_natCast, hs, hb']

theorem EX.indexArr {T : TypeId} {len k : Nat} {x y : Operand} {kd : IntKind} {z : Int} (hT : arrB P T len 1 = true) (hl : ws.length = len) (hx : ev e x = some (arr ws)) (hy : ev e y = some (.int kd z)) (hz : z = (k : Int)) (hk : k < len) 
     (hp : ∀ el, P.underlying T = some (.array len el) → tyB P el false 1 = true := by intro el h; rw [show P.underlying T = _ from h] at *; simp_all) : EX P n ds e (.index T x y) ty (.int .i64 (ws.getD k 0)) w := by
  subst hz
  obtain ⟨el, i, hu, hi, hs⟩ := arrB_out hT
  intro a ha _ _ _ _
  have h1 : (0 : Int) ≤ (k : Int) ∧ (k : Int) < (len : Int) := by omega
  have hg := arrC_get_lt (ws := ws) (i := k) (by omega)
  simp only [execOp, ha.ev hx, ha.ev hy, arr, Instr.index, asIntOf, Sem.run_bind, Sem.run_pure, Result.andThen_ok, run_underlying hu, h1, and_self, if_true, sizeOf, typeInfo, run_program, hi, hs, Int.toNat_natCast, part, tyB_isAgg (hp el hu), Nat.mul_one, hg, Bool.false_eq_true, if_false]

theorem EX.build {T : TypeId} {pl : List (Nat × Nat)} {z cells : Array Value} {ps : List (Nat × Operand)} {vs : List (Nat × Value)} (hpl : placesOf P T = some pl) (hz : ZeroIs P T z) (hvs : evp e ps = some vs) 
    (hf : Instr.fill (pl[·]?) z vs = some cells)
     : EX P n ds e (.build T ps.toArray) ty (.agg cells) w := by
  obtain ⟨u, hu, hrun⟩ := hz
  unfold placesOf at hpl
  cases hT : P.underlying T with
  | none => simp [hT] at hpl
  | some dsc =>
    rw [hT] at hpl
    cases dsc with
    | struct fs =>
      simp only at hpl
      intro a ha _ _ _ _
      have hp := run_places (P := P) w hpl
      have hmap : (fs.mapM fun f => (do pure (f.offset, ← sizeOf f.type) : Sem (Nat × Nat))).run P w = .ok pl.toArray w := by
        rw [← Array.toArray_toList (xs := fs), List.mapM_toArray, Sem.run_map]
        rw [hp]; rfl
      simp only [execOp, Instr.build, Sem.run_bind, hrun, Result.andThen_ok, run_underlying hT, hmap, List.map_toArray, ha.evp hvs, hu]
      have e2 : (fun x : Nat => pl.toArray[x]?) = (fun x : Nat => pl[x]?) := by funext x; simp
      rw [e2, hf]
      rfl
    | _ => simp at hpl

theorem EX.buildA {T : TypeId} {len sz : Nat} {z cells : Array Value} {ps : List (Nat × Operand)} {vs : List (Nat × Value)} (hT : arrB P T len sz = true) (hz : ZeroIs P T z) (hvs : evp e ps = some vs) 
    (hf : Instr.fill (fun i => some (i * sz, sz)) z vs = some cells)
     : EX P n ds e (.build T ps.toArray) ty (.agg cells) w := by
  obtain ⟨u, hu, hrun⟩ := hz
  obtain ⟨el, i, hu', hi, hs⟩ := arrB_out hT
  intro a ha _ _ _ _
  simp only [execOp, Instr.build, Sem.run_bind, hrun, Result.andThen_ok, run_underlying hu', sizeOf, typeInfo, run_program, hi, hs, Sem.run_pure, List.map_toArray, ha.evp hvs, hu, hf]

end

/-! ### Regions that draw their order -/
section
variable {P : Program} {ops : Array Oper} {Q : Exit → Act → World → Prop} {n : Nat} {ds : List Deferred} {e e' : Env} {w w' w0 : World} {S : World → Prop} {fuel : Nat} {listed : Array Bool}

/-- The region's rest, in whatever order. -/
def WH (P : Program) (ops : Array Oper) (Q : Exit → Act → World → Prop) (n : Nat) (ds : List Deferred) (S : World → Prop) (fuel : Nat) (listed : Array Bool) (e : Env) (w : World) : Prop :=
  ∀ a, Holds a n ds e → wpAnyH P .any ops Q S fuel listed a w
theorem WC.held {id : Nat} {l : List Oper} (S : World → Prop) (hm : P.follows .mixedOrders = true) (h : WH P l.toArray Q n ds S l.length (Array.replicate l.length false) e w.drew) : WC P (.region id l.toArray true) Q n ds e w := fun a ha =>
  wp_region_held hm (by simpa using h a ha)
theorem WH.sub (hs : Sub e e') (h : WH P ops Q n ds S fuel listed e' w) : WH P ops Q n ds S fuel listed e w := fun a ha => h a (ha.sub hs)
/-- A copy, an address, a load of a cell that nobody writes: taken first. -/
theorem WH.take (i : Nat) {d : Nat} {v : Value} {op : Op} {ty : TypeId} {pos : String} {af : Array Edge} (hi : ops[i]? = some { dst := some d, op := op, type := ty, pos := pos, after := af, guard := none })
    (hs : Region.noSelect ops = true) (hf : Region.free .any ops listed i = true) (hr : (Region.ready .any ops listed).contains i = true)
    (hQ : ∀ c a w, Q (.panic c) (a.put (some d) v) w → Q (.panic c) a w) (hS : S w) (hy : ∀ w', S w' → EX P n ds e op ty v w') (hdn : Nat.blt d n = true)
    (h : WH P ops Q n ds S fuel (listed.setIfInBounds i true) ((d, v) :: e) w) : WH P ops Q n ds S (fuel + 1) listed e w := fun a ha =>
  wpAnyH_take hi hs hf hr hQ (.inl ⟨by simp [Region.wanted], fun w' hw' => hy w' hw' a ha⟩) hS (h _ (ha.put (by simpa using hdn)))
theorem WH.takeYes (i : Nat) {d j t : Nat} {b : Bool} {v : Value} {op : Op} {ty : TypeId} {pos : String} {af : Array Edge} (hi : ops[i]? = some { dst := some d, op := op, type := ty, pos := pos, after := af, guard := some (j, b) })
    (hs : Region.noSelect ops = true) (hf : Region.free .any ops listed i = true) (hr : (Region.ready .any ops listed).contains i = true)
    (hQ : ∀ c a w, Q (.panic c) (a.put (some d) v) w → Q (.panic c) a w) (hS : S w) (hj : (ops[j]?).bind (·.dst) = some t) (ht : e.lookup t = some (.bool b)) (hy : ∀ w', S w' → EX P n ds e op ty v w') (hdn : Nat.blt d n = true)
    (h : WH P ops Q n ds S fuel (listed.setIfInBounds i true) ((d, v) :: e) w) : WH P ops Q n ds S (fuel + 1) listed e w := fun a ha =>
  wpAnyH_take hi hs hf hr hQ (.inl ⟨by simp [Region.wanted, yielded_of ha hj ht], fun w' hw' => hy w' hw' a ha⟩) hS (h _ (ha.put (by simpa using hdn)))
theorem WH.takeNo (i : Nat) {d j t : Nat} {b : Bool} {op : Op} {ty : TypeId} {pos : String} {af : Array Edge} (hi : ops[i]? = some { dst := some d, op := op, type := ty, pos := pos, after := af, guard := some (j, b) })
    (hs : Region.noSelect ops = true) (hf : Region.free .any ops listed i = true) (hr : (Region.ready .any ops listed).contains i = true)
    (hQ : ∀ c a w, Q (.panic c) (a.put (some d) undef) w → Q (.panic c) a w) (hS : S w) (hj : (ops[j]?).bind (·.dst) = some t) (ht : e.lookup t = some (.bool !b)) (hdn : Nat.blt d n = true)
    (h : WH P ops Q n ds S fuel (listed.setIfInBounds i true) ((d, undef) :: e) w) : WH P ops Q n ds S (fuel + 1) listed e w := fun a ha =>
  wpAnyH_take hi hs hf hr hQ (.inr ⟨by simp [Region.wanted, yielded_of ha hj ht], rfl⟩) hS (h _ (ha.put (by simpa using hdn)))
theorem WH.takeNoU (i : Nat) {d j t : Nat} {b : Bool} {op : Op} {ty : TypeId} {pos : String} {af : Array Edge} (hi : ops[i]? = some { dst := some d, op := op, type := ty, pos := pos, after := af, guard := some (j, b) })
    (hs : Region.noSelect ops = true) (hf : Region.free .any ops listed i = true) (hr : (Region.ready .any ops listed).contains i = true)
    (hQ : ∀ c a w, Q (.panic c) (a.put (some d) undef) w → Q (.panic c) a w) (hS : S w) (hj : (ops[j]?).bind (·.dst) = some t) (ht : e.lookup t = some undef) (htn : Nat.blt t n = true) (hdn : Nat.blt d n = true)
    (h : WH P ops Q n ds S fuel (listed.setIfInBounds i true) ((d, undef) :: e) w) : WH P ops Q n ds S (fuel + 1) listed e w := fun a ha => by
  refine wpAnyH_take hi hs hf hr hQ (.inr ⟨?_, rfl⟩) hS (h _ (ha.put (by simpa using hdn)))
  have hy : yielded ops a.tmps j = none := by
    unfold yielded
    rw [hj]
    have h1 := ha.get t _ ht
    have hl : t < a.tmps.size := by rw [ha.size]; simpa using htn
    simp only [Array.getD_eq_getD_getElem?, Array.getElem?_eq_getElem hl, Option.getD_some] at h1
    simp only [Option.bind_some, Array.getElem?_eq_getElem hl, h1, undef]
  simp [Region.wanted, hy]
/-- The one operation that may come up. -/
theorem WH.hard (i : Nat) {o : Oper} (hi : ops[i]? = some o) (hr : Region.ready .any ops listed = [i])
    (h : WL P ops (Exit.then (fun a' w' => S w' ∧ wpAnyH P .any ops Q S fuel (listed.setIfInBounds i true) a' w') Q) n ds [o] e w) : WH P ops Q n ds S (fuel + 1) listed e w := fun a ha => by
  refine wpAnyH_all hr (by simp) (fun j hj => ?_)
  simp only [List.mem_singleton] at hj
  subst hj
  have h' := h a ha
  unfold wpOp
  rw [hi]
  exact h'
theorem WH.hard2 (i j : Nat) {o o' : Oper} (hi : ops[i]? = some o) (hj : ops[j]? = some o') (hr : Region.ready .any ops listed = [i, j])
    (h : WL P ops (Exit.then (fun a' w' => S w' ∧ wpAnyH P .any ops Q S fuel (listed.setIfInBounds i true) a' w') Q) n ds [o] e w)
    (h' : WL P ops (Exit.then (fun a' w' => S w' ∧ wpAnyH P .any ops Q S fuel (listed.setIfInBounds j true) a' w') Q) n ds [o'] e w) : WH P ops Q n ds S (fuel + 1) listed e w := fun a ha => by
  refine wpAnyH_all hr (by simp) (fun q hq => ?_)
  simp only [List.mem_cons, List.not_mem_nil, or_false] at hq
  rcases hq with rfl | rfl
  · have h1 := h a ha
    unfold wpOp
    rw [hi]
    exact h1
  · have h1 := h' a ha
    unfold wpOp
    rw [hj]
    exact h1
theorem WH.hard3 (i j k : Nat) {o o' o'' : Oper} (hi : ops[i]? = some o) (hj : ops[j]? = some o') (hk : ops[k]? = some o'') (hr : Region.ready .any ops listed = [i, j, k])
    (h : WL P ops (Exit.then (fun a' w' => S w' ∧ wpAnyH P .any ops Q S fuel (listed.setIfInBounds i true) a' w') Q) n ds [o] e w)
    (h' : WL P ops (Exit.then (fun a' w' => S w' ∧ wpAnyH P .any ops Q S fuel (listed.setIfInBounds j true) a' w') Q) n ds [o'] e w)
    (h'' : WL P ops (Exit.then (fun a' w' => S w' ∧ wpAnyH P .any ops Q S fuel (listed.setIfInBounds k true) a' w') Q) n ds [o''] e w) : WH P ops Q n ds S (fuel + 1) listed e w := fun a ha => by
  refine wpAnyH_all hr (by simp) (fun q hq => ?_)
  simp only [List.mem_cons, List.not_mem_nil, or_false] at hq
  rcases hq with rfl | rfl | rfl
  · have h1 := h a ha
    unfold wpOp
    rw [hi]
    exact h1
  · have h1 := h' a ha
    unfold wpOp
    rw [hj]
    exact h1
  · have h1 := h'' a ha
    unfold wpOp
    rw [hk]
    exact h1
theorem WH.split {t : Nat} {b : Bool} (ht : e.lookup t = some (.bool b)) (hT : b = true → WH P ops Q n ds S fuel listed ((t, .bool true) :: e) w) (hF : b = false → WH P ops Q n ds S fuel listed ((t, .bool false) :: e) w) : WH P ops Q n ds S fuel listed e w := by
  cases b with
  | true => exact (hT rfl).sub (Sub.cons ht (Sub.refl _))
  | false => exact (hF rfl).sub (Sub.cons ht (Sub.refl _))
theorem WH.splitD {t : Nat} {p : Prop} [Decidable p] (ht : e.lookup t = some (.bool (decide p))) (hT : p → WH P ops Q n ds S fuel listed ((t, .bool true) :: e) w) (hF : ¬ p → WH P ops Q n ds S fuel listed ((t, .bool false) :: e) w) : WH P ops Q n ds S fuel listed e w :=
  WH.split ht (fun h => hT (of_decide_eq_true h)) (fun h => hF (of_decide_eq_false h))
theorem WX.heldOn (hS : S w) (h : WH P ops Q n ds S fuel listed e w) : WX (Exit.then (fun a' w' => S w' ∧ wpAnyH P .any ops Q S fuel listed a' w') Q) .normal n ds e w := fun a ha => ⟨hS, h a ha⟩
theorem WH.done (hr : Region.ready .any ops listed = []) (h : WX Q .normal n ds e w) : WH P ops Q n ds S fuel listed e w := fun a ha => wpAnyH_done hr (h a ha) fuel
end

/-- The worlds that a region passes through: of what lay there at its start only the blocks of X may have changed. -/
def SX (w : World) (X : List Nat) (w' : World) : Prop := ∃ H, St w X w' H
theorem SX.block {w w' : World} {X : List Nat} (h : SX w X w') {b : Nat} {o : Obj} (hb : w.heap[b]? = some o) (hX : b ∉ X) : w'.heap[b]? = some o := by
  obtain ⟨H, h⟩ := h
  exact h.oldBlock hb hX


section
variable {P : Program} {w0 wb w' : World} {X S : List Nat} {b o : Nat} {cs : Array Value} {t : TypeId} {v : Value} {H M N : Hp} {ws : List Int}
theorem SX.rd1 (hS : SX wb X w') {T : TypeId} {k : Nat} (hT : tyB P T false k = true) (hb : wb.heap[b]? = some (.cells cs t)) (hX : b ∉ X) (hc : cs[o]? = some v) : Rd P w' T ⟨b, o, none⟩ v :=
  Rd.one hT (by rw [cell_of (hS.block hb hX)]; exact hc)
theorem SX.rdA (hS : SX wb X w') {T : TypeId} {k : Nat} (hT : tyB P T true k = true) (hb : wb.heap[b]? = some (.cells cs t)) (hX : b ∉ X) (hk : o + k ≤ cs.size) : Rd P w' T ⟨b, o, none⟩ (.agg (cs.extract o (o + k))) :=
  Rd.agg hT (hS.block hb hX) hk
theorem SX.rdArr (hS : SX wb X w') {T : TypeId} {k : Nat} (hT : tyB P T true k = true) (hb : wb.heap[b]? = some (.cells (arrC ws) t)) (hX : b ∉ X) (hl : ws.length = k) : Rd P w' T ⟨b, 0, none⟩ (arr ws) :=
  Rd.arr hT (hS.block hb hX) hl
theorem SX.rdArrMid (hS : SX wb X w') {T : TypeId} {k : Nat} (hT : tyB P T true k = true) (hb : wb.heap[b]? = some (.cells (arrC ws) t)) (hX : b ∉ X) (hl : o + k ≤ ws.length) : Rd P w' T ⟨b, o, none⟩ (arr ((ws.drop o).take k)) :=
  Rd.arrMid hT (hS.block hb hX) hl
theorem SX.rdElt (hS : SX wb X w') {T : TypeId} {k : Nat} (hT : tyB P T false k = true) (hb : wb.heap[b]? = some (.cells (arrC ws) t)) (hX : b ∉ X) (hl : o < ws.length) : Rd P w' T ⟨b, o, none⟩ (.int .i64 (ws.getD o 0)) :=
  SX.rd1 hS hT hb hX (arrC_get_lt hl)
theorem St.blk (hS : St w0 S wb H) (i : Nat) {ob : Obj} (hi : H[i]? = some (b, ob)) : wb.heap[b]? = some ob := hS.sat _ (List.mem_of_getElem? hi)
theorem St.ne (hS : St w0 S wb H) (i j : Nat) {p q : Nat × Obj} (hi : H[i]? = some p) (hj : H[j]? = some q) (hij : (i == j) = false) : p.1 ≠ q.1 := fst_ne hS.nd hi hj (by simpa using hij)
/-- The one block that a region writes, taken out. -/
theorem St.single (hS : St w0 S wb H) (i : Nat) {p : Nat × Obj} (hi : H[i]? = some p) : St wb [p.1] wb [p] :=
  St.start (H := [p]) (by simp) (fun q hq => by simp only [List.mem_singleton] at hq; subst hq; exact hS.sat _ (List.mem_of_getElem? hi))
/-- .. and put back. -/
theorem St.back (hS : St w0 S wb H) (i : Nat) {p p' : Nat × Obj} (hi : H[i]? = some p) (hB : St wb [p.1] w' (N ++ [p'])) (hp : p'.1 = p.1) : St w0 S w' (N ++ H.set i p') := by
  have hmem : p ∈ H := List.mem_of_getElem? hi
  have hil : i < H.length := by
    rcases Nat.lt_or_ge i H.length with hl | hg
    · exact hl
    · rw [List.getElem?_eq_none hg] at hi; cases hi
  have hmap : (H.set i p').map Prod.fst = H.map Prod.fst := by
    rw [List.map_set]
    apply List.ext_getElem?
    intro j
    rw [List.getElem?_set]
    split
    · rename_i hij
      subst hij
      simp only [List.length_map, hil, if_true, List.getElem?_map, hi, Option.map, hp]
    · rfl
  have hN : ∀ q ∈ N, wb.heap.size ≤ q.1 := fun q hq => by
    rcases hB.own q (List.mem_append_left _ hq) with h | h
    · exfalso
      have hnd := hB.nd
      rw [List.map_append, List.nodup_append] at hnd
      simp only [List.mem_singleton] at h
      exact hnd.2.2 q.1 (List.mem_map_of_mem hq) p'.1 (by simp) (by rw [h, hp])
    · exact h
  refine ⟨hB.os.trans hS.os, hB.tape.trans hS.tape, hB.output.trans hS.output, Nat.le_trans hS.size hB.size, fun k hk hkS => ?_, ?_, ?_, ?_⟩
  · rw [hB.old k (Nat.lt_of_lt_of_le hk hS.size) ?_]
    · exact hS.old k hk hkS
    · simp only [List.mem_singleton]
      rintro rfl
      rcases hS.own p hmem with h | h
      · exact hkS h
      · omega
  · rw [List.map_append, hmap, List.nodup_append]
    have hnd := hB.nd
    rw [List.map_append, List.nodup_append] at hnd
    refine ⟨hnd.1, hS.nd, ?_⟩
    intro x hx y hy hxy
    obtain ⟨q, hq, rfl⟩ := List.mem_map.1 hx
    obtain ⟨r, hr, rfl⟩ := List.mem_map.1 hy
    have h1 := hN q hq
    have h2 := hS.lt hr
    omega
  · intro q hq
    rcases List.mem_append.1 hq with hq | hq
    · exact hB.sat q (List.mem_append_left _ hq)
    · obtain ⟨j, hj⟩ := List.getElem?_of_mem hq
      rw [List.getElem?_set] at hj
      split at hj
      · rename_i hij
        cases hj
        exact hB.sat p' (by simp)
      · rename_i hij
        have hqm : q ∈ H := List.mem_of_getElem? hj
        have hne := fst_ne hS.nd hj hi (Ne.symm hij)
        rw [hB.old _ (hS.lt hqm) (by simpa using hne)]
        exact hS.sat q hqm
  · intro q hq
    rcases List.mem_append.1 hq with hq | hq
    · exact .inr (Nat.le_trans hS.size (hN q hq))
    · rcases List.mem_or_eq_of_mem_set hq with hq | rfl
      · exact hS.own q hq
      · rw [hp]; exact hS.own p hmem
end

end Go.Proofs.YtkncbggnaobgeaaDoor

/- Layer 3 (the code of a line) as plain functions over lists of integers. No Go in sight. -/
namespace Go.Proofs.YtkncbggnaobgeaaDoor
set_option maxRecDepth 100000

def isWord (n : Int) : Bool := decide (0 ≤ n) && decide (n ≤ 1099511627775)
def isCode (n : Int) : Bool := decide (0 ≤ n) && decide (n ≤ 1023)
theorem isWord_iff {n : Int} : isWord n = true ↔ 0 ≤ n ∧ n ≤ 1099511627775 := by simp [isWord]
theorem isWord_no {n : Int} (h : n < 0 ∨ 1099511627775 < n) : isWord n = false := by simp [isWord]; omega
theorem isCode_iff {n : Int} : isCode n = true ↔ 0 ≤ n ∧ n ≤ 1023 := by simp [isCode]
theorem isCode_no {n : Int} (h : n < 0 ∨ 1023 < n) : isCode n = false := by simp [isCode]; omega
/-- Eight words. -/
def isWords (ws : List Int) : Bool := ws.all isWord
theorem isWords_get {ws : List Int} (h : isWords ws = true) {g : Nat} (hg : g < ws.length) : 0 ≤ ws.getD g 0 ∧ ws.getD g 0 ≤ 1099511627775 := by
  have := List.all_eq_true.1 h (ws.getD g 0) (by simp [List.getD, List.getElem?_eq_getElem hg])
  exact isWord_iff.1 this
theorem take_all_succ {p : Int → Bool} {ws : List Int} {g : Nat} (h : g < ws.length) (h1 : (ws.take g).all p = true) (h2 : p (ws.getD g 0) = true) : (ws.take (g + 1)).all p = true := by
  rw [List.take_succ_eq_append_getElem h, List.all_append, h1]
  simp [List.getD, List.getElem?_eq_getElem h] at h2
  simp [h2]
theorem all_false_of {p : Int → Bool} {ws : List Int} {g : Nat} (h : g < ws.length) (h2 : p (ws.getD g 0) = false) : ws.all p = false := by
  rw [List.all_eq_false]
  refine ⟨ws.getD g 0, ?_, by rw [h2]; simp⟩
  simp [List.getD, List.getElem?_eq_getElem h]
theorem all_of_take {p : Int → Bool} {ws : List Int} (h : (ws.take ws.length).all p = true) : ws.all p = true := by simpa using h

/-- How many binary digits (below 1024). -/
def len2 (x : Nat) : Nat :=
  if x < 1 then 0 else if x < 2 then 1 else if x < 4 then 2 else if x < 8 then 3 else if x < 16 then 4 else if x < 32 then 5 else if x < 64 then 6 else if x < 128 then 7 else if x < 256 then 8 else if x < 512 then 9 else 10
/-- The position of a data bit. -/
def posn (i : Nat) : Nat := if len2 (i + 1 + len2 (i + 1)) > len2 (i + 1) then i + 1 + len2 (i + 1) + 1 else i + 1 + len2 (i + 1)
/-- How many digits are 1 (below 1024). -/
def popc (x : Nat) : Nat := x % 2 + x / 2 % 2 + x / 4 % 2 + x / 8 % 2 + x / 16 % 2 + x / 32 % 2 + x / 64 % 2 + x / 128 % 2 + x / 256 % 2 + x / 512 % 2
def isPow2 (n : Nat) : Bool := n &&& (n - 1) == 0

theorem posn_facts : ∀ i, i < 320 → 3 ≤ posn i ∧ posn i < 512 ∧ isPow2 (posn i) = false := by decide +kernel
theorem posn_next : ∀ i, i < 320 → (isPow2 (posn i + 1) = false ∧ posn (i + 1) = posn i + 1) ∨ (isPow2 (posn i + 1) = true ∧ isPow2 (posn i + 2) = false ∧ posn (i + 1) = posn i + 2) := by decide +kernel
theorem posn_zero : posn 0 = 3 := by decide
theorem posn_mono : ∀ i, i < 320 → posn i < posn (i + 1) := by
  intro i hi
  rcases posn_next i hi with h | h <;> omega
theorem posn_lt {i j : Nat} (hj : j ≤ 320) (h : i < j) : posn i < posn j := by
  induction j with
  | zero => omega
  | succ j ih =>
    have := posn_mono j (by omega)
    rcases Nat.lt_or_ge i j with hl | hg
    · have := ih (by omega) hl; omega
    · have : i = j := by omega
      subst this; assumption
theorem posn_inj {i j : Nat} (hi : i < 320) (hj : j < 320) (h : posn i = posn j) : i = j := by
  rcases Nat.lt_trichotomy i j with hl | he | hg
  · have := posn_lt (by omega) hl; omega
  · exact he
  · have := posn_lt (by omega) hg; omega

/-- Data bit j of a line. -/
def bitAt (ws : List Int) (j : Nat) : Bool := (ws.getD (j / 40) 0).toNat.testBit (j % 40)
/-- The exclusive or of the positions of the first j data bits that are 1, and how many these are. -/
def synTo (ws : List Int) : Nat → Nat × Nat
  | 0 => (0, 0)
  | j + 1 => if bitAt ws j then ((synTo ws j).1 ^^^ posn j, (synTo ws j).2 + 1) else synTo ws j
def syn (ws : List Int) : Nat := (synTo ws 320).1
def cnt (ws : List Int) : Nat := (synTo ws 320).2

theorem synTo_lt (ws : List Int) : ∀ j, j ≤ 320 → (synTo ws j).1 < 512 ∧ (synTo ws j).2 ≤ j
  | 0, _ => by simp [synTo]
  | j + 1, h => by
    have ih := synTo_lt ws j (by omega)
    have hp := posn_facts j (by omega)
    simp only [synTo]
    split
    · refine ⟨?_, by simp; omega⟩
      exact Nat.xor_lt_two_pow (n := 9) (by omega) (by omega)
    · exact ⟨ih.1, by omega⟩
theorem syn_lt (ws : List Int) : syn ws < 512 := (synTo_lt ws 320 (by omega)).1
theorem cnt_le (ws : List Int) : cnt ws ≤ 320 := (synTo_lt ws 320 (by omega)).2
theorem synTo_skip (ws : List Int) (a : Nat) : ∀ d, (∀ j, a ≤ j → j < a + d → bitAt ws j = false) → synTo ws (a + d) = synTo ws a
  | 0, _ => rfl
  | d + 1, h => by
    rw [show a + (d + 1) = (a + d) + 1 from rfl, synTo, h (a + d) (by omega) (by omega)]
    simp only [Bool.false_eq_true, if_false]
    exact synTo_skip ws a d (fun j h1 h2 => h j h1 (by omega))

def enc (ws : List Int) : Int := if isWords ws then ((if (cnt ws + popc (syn ws)) % 2 = 1 then syn ws ||| 512 else syn ws : Nat) : Int) else -1

/-- The first data bit at a position. -/
def findPos (s : Nat) : Option Nat := (List.range 320).find? fun j => posn j == s
/-- The exponent of a power of two below 512. -/
def log2 (s : Nat) : Nat := (List.range 9).findIdx fun k => 2 ^ k == s
/-- State, word, bit. -/
def chk (ws : List Int) (c : Int) : Int × Int × Int :=
  if isWords ws && isCode c then
    let s := syn ws ^^^ (c.toNat &&& 511)
    if (cnt ws + popc c.toNat) % 2 = 1 then
      if s = 0 then (1, 8, 9)
      else if isPow2 s then (1, 8, log2 s)
      else match findPos s with
        | some j => (1, (j / 40 : Nat), (j % 40 : Nat))
        | none => (2, 0, 0)
    else if s = 0 then (0, 0, 0) else (2, 0, 0)
  else (2, 0, 0)

theorem and511 {s : Nat} (h : s < 512) : (s ||| 512) &&& 511 = s ∧ s &&& 511 = s := by
  have key : ∀ s, s < 512 → (s ||| 512) &&& 511 = s ∧ s &&& 511 = s := by decide +kernel
  exact key s h
theorem popc512 {s : Nat} (h : s < 512) : popc (s ||| 512) = popc s + 1 ∧ s ||| 512 < 1024 := by
  have key : ∀ s, s < 512 → popc (s ||| 512) = popc s + 1 ∧ s ||| 512 < 1024 := by decide +kernel
  exact key s h
theorem enc_range {ws : List Int} (h : isWords ws = true) : 0 ≤ enc ws ∧ enc ws ≤ 1023 := by
  have h1 := syn_lt ws
  have h2 := (popc512 h1).2
  unfold enc
  rw [if_pos h]
  split <;> omega
theorem enc_code {ws : List Int} (h : isWords ws = true) : isCode (enc ws) = true := isCode_iff.2 (enc_range h)
/-- A line with its own code is clean. -/
theorem chk_enc {ws : List Int} (h : isWords ws = true) : chk ws (enc ws) = (0, 0, 0) := by
  have h1 := syn_lt ws
  have h2 := popc512 h1
  have h3 := and511 h1
  unfold chk
  rw [h, enc_code h]
  simp only [Bool.and_self, if_true]
  unfold enc
  rw [if_pos h]
  by_cases hp : (cnt ws + popc (syn ws)) % 2 = 1
  · simp only [hp, if_true, Int.toNat_natCast, h2.1, h3.1, Nat.xor_self]
    rw [if_neg (by omega)]
  · simp only [hp, if_false, Int.toNat_natCast, h3.2, Nat.xor_self, if_true]

/-- Bit number 'bit' of word number 'word' (8: the code) inverted. -/
def flipBit (ws : List Int) (c : Int) (word bit : Nat) : List Int × Int :=
  if word = 8 then (ws, ((c.toNat ^^^ 2 ^ bit : Nat) : Int)) else (ws.set word (((ws.getD word 0).toNat ^^^ 2 ^ bit : Nat) : Int), c)
/-- What Fix returns: words, code, error. -/
def fix (ws : List Int) (c : Int) : List Int × Int × Int :=
  if isWords ws && isCode c then
    match chk ws c with
    | (0, _, _) => (ws, c, 0)
    | (1, w, b) => ((flipBit ws c w.toNat b.toNat).1, (flipBit ws c w.toNat b.toNat).2, 0)
    | _ => ([0, 0, 0, 0, 0, 0, 0, 0], 0, 9)
  else ([0, 0, 0, 0, 0, 0, 0, 0], 0, 1)
theorem fix_enc {ws : List Int} (h : isWords ws = true) : fix ws (enc ws) = (ws, enc ws, 0) := by
  unfold fix
  rw [h, enc_code h, chk_enc h]
  rfl
end Go.Proofs.YtkncbggnaobgeaaDoor

/- Walks of functions of the program; printed by a program of this session (walk.py) out of hand-written hints. -/
namespace Go.Proofs.YtkncbggnaobgeaaDoor
open Go.RowKit
set_option linter.unusedVariables false
set_option linter.unusedSimpArgs false
set_option maxRecDepth 100000

theorem retb {a b : Bool} (h : a = true ↔ b = true) : Ending.returned (.bool a) = Ending.returned (.bool b) := by rw [Bool.eq_iff_iff.2 h]
theorem reti {k : IntKind} {a b : Int} (h : a = b) : Ending.returned (.int k a) = Ending.returned (.int k b) := by rw [h]
def tab64 : List Nat := [0, 1, 56, 2, 57, 49, 28, 3, 61, 58, 42, 50, 38, 29, 17, 4, 62, 47, 59, 36, 45, 43, 51, 22, 53, 39, 33, 30, 24, 18, 12, 5, 63, 55, 48, 27, 60, 41, 37, 16, 46, 35, 44, 21, 52, 32, 23, 11, 54, 26, 40, 15, 34, 20, 31, 10, 25, 14, 19, 9, 13, 8, 7, 6]
def tab64C : Array Value := (tab64.map fun (k : Nat) => Value.int .u8 (k : Int)).toArray
/-- The table of math/bits lies where it was laid. -/
def L64 (w : World) : Prop := ∃ t fr, w.heap[3]? = some (.cells tab64C t fr)
theorem L64.of {w0 w : World} {S : List Nat} {H : Hp} (h : L64 w0) (hS : St w0 S w H) (h3 : 3 ∉ S) : L64 w := by
  obtain ⟨t, fr, h⟩ := h
  exact ⟨t, fr, hS.oldBlock h h3⟩
theorem L64.of0 {w0 w : World} {H : Hp} (h : L64 w0) (hS : St w0 [] w H) : L64 w := h.of hS (by simp)
theorem tab64_at : ∀ k, k < 64 → tab64[(2 ^ k * 285870213051353865 % 18446744073709551616) / 2 ^ 58]? = some k := by decide +kernel
theorem and_sub_pow {k m : Nat} (h : 2 ^ k * (2 * m + 1) < 2 ^ 64) : (2 ^ k * (2 * m + 1)) &&& (2 ^ 64 - 2 ^ k * (2 * m + 1)) = 2 ^ k := by
  have hk : k < 64 := by
    rcases Nat.lt_or_ge k 64 with hl | hg
    · exact hl
    · exfalso
      have : 2 ^ 64 ≤ 2 ^ k := Nat.pow_le_pow_right (by omega) hg
      have : 2 ^ k * 1 ≤ 2 ^ k * (2 * m + 1) := Nat.mul_le_mul_left _ (by omega)
      omega
  obtain ⟨j, hj⟩ : ∃ j, 64 = k + (j + 1) := ⟨63 - k, by omega⟩
  rw [hj] at h ⊢
  have e : 2 ^ (k + (j + 1)) = 2 ^ k * (2 * 2 ^ j) := by rw [Nat.pow_add, Nat.pow_succ, Nat.mul_comm (2 ^ j) 2]
  rw [e] at h ⊢
  have hm : 2 * m + 1 < 2 * 2 ^ j := Nat.lt_of_mul_lt_mul_left h
  rw [← Nat.mul_sub]
  have e2 : 2 * 2 ^ j - (2 * m + 1) = 2 * (2 ^ j - (m + 1)) + 1 := by omega
  rw [e2]
  apply Nat.eq_of_testBit_eq
  intro i
  rw [Nat.testBit_and, Nat.testBit_two_pow_mul, Nat.testBit_two_pow_mul, Nat.testBit_two_pow]
  rcases Nat.lt_trichotomy i k with hl | he | hg
  · have h1 : ¬ i ≥ k := by omega
    have h2 : ¬ k = i := by omega
    simp [h1, h2]
  · subst he
    simp [Nat.testBit_zero]
  · have h2 : ¬ k = i := by omega
    obtain ⟨d, rfl⟩ : ∃ d, i = k + (d + 1) := ⟨i - k - 1, by omega⟩
    have e3 : k + (d + 1) - k = d + 1 := by omega
    rw [e3, Nat.testBit_succ, Nat.testBit_succ]
    have e4 : (2 * m + 1) / 2 = m := by omega
    have e5 : (2 * (2 ^ j - (m + 1)) + 1) / 2 = 2 ^ j - (m + 1) := by omega
    rw [e4, e5, Nat.testBit_two_pow_sub_succ (by omega)]
    cases m.testBit d <;> simp [h2]
def oc1 (v : Nat) : Nat := (v / 2 ^ 1 &&& 6148914691236517205) + (v &&& 6148914691236517205)
def oc2 (x : Nat) : Nat := (x / 2 ^ 2 &&& 3689348814741910323) + (x &&& 3689348814741910323)
def oc3 (x : Nat) : Nat := (x / 2 ^ 4 + x) &&& 1085102592571150095
def oc4 (x : Nat) : Nat := x + x / 2 ^ 8
def oc5 (x : Nat) : Nat := x + x / 2 ^ 16
def oc6 (x : Nat) : Nat := x + x / 2 ^ 32
theorem oc_facts : ∀ v, v < 1024 → v / 2 ^ 1 < 4096 ∧ (v / 2 ^ 1 &&& 6148914691236517205) < 4096 ∧ (v &&& 6148914691236517205) < 4096 ∧ oc1 v < 4096 ∧
    oc1 v / 2 ^ 2 < 4096 ∧ (oc1 v / 2 ^ 2 &&& 3689348814741910323) < 4096 ∧ (oc1 v &&& 3689348814741910323) < 4096 ∧ oc2 (oc1 v) < 4096 ∧
    oc2 (oc1 v) / 2 ^ 4 + oc2 (oc1 v) < 8192 ∧ oc3 (oc2 (oc1 v)) < 4096 ∧ oc3 (oc2 (oc1 v)) / 2 ^ 8 < 4096 ∧ oc4 (oc3 (oc2 (oc1 v))) < 8192 ∧ oc4 (oc3 (oc2 (oc1 v))) / 2 ^ 16 < 4096 ∧ oc5 (oc4 (oc3 (oc2 (oc1 v)))) < 16384 ∧
    oc5 (oc4 (oc3 (oc2 (oc1 v)))) / 2 ^ 32 < 4096 ∧ oc6 (oc5 (oc4 (oc3 (oc2 (oc1 v))))) < 32768 ∧ (oc6 (oc5 (oc4 (oc3 (oc2 (oc1 v))))) &&& 127) = popc v := by decide +kernel

theorem word_any (x : Int) (w : World) : Calls Tryd.prog 166 #[.int .i64 x] w fun e w' => e = .returned (.bool (isWord x)) ∧ w' = w := by
  refine calls_walk_n (args := [.int .i64 x]) Tryd.func166 rfl rfl rfl ?_
  refine WC.seq ?_
  refine WC.region ?_
  refine WL.assign rfl rfl ?_
  refine (WL.done (WX.next ?_))
  refine WC.seq ?_
  refine WC.region ?_
  refine WL.move rfl rfl ?_
  refine WL.bin rfl rfl binv_geq rfl ?_
  refine WL.move rfl rfl ?_
  first | refine WL.splitD (t := 5) rfl (fun g1 => ?_) (fun g1 => ?_) | refine WL.split (t := 5) rfl (fun g1 => ?_) (fun g1 => ?_)
  · -- g1 True
    refine WL.yes rfl rfl ?_
    refine WL.move rfl rfl ?_
    refine WL.yes rfl rfl ?_
    refine WL.bin rfl rfl binv_leq rfl ?_
    refine WL.pickT rfl rfl rfl ?_
    refine WL.assign rfl rfl ?_
    refine (WL.done (WX.next ?_))
    refine (WC.ret ?_)
    refine ret_one rfl rfl ?_
    exact ⟨by congr 2; simp [isWord]; omega, rfl⟩
  · -- g1 False
    refine WL.no rfl rfl rfl ?_
    refine WL.no rfl rfl rfl ?_
    refine WL.pickF rfl rfl rfl ?_
    refine WL.assign rfl rfl ?_
    refine (WL.done (WX.next ?_))
    refine (WC.ret ?_)
    refine ret_one rfl rfl ?_
    exact ⟨by congr 2; simp [isWord]; omega, rfl⟩

theorem valid_any (ws : List Int) (c : Int) (h8 : ws.length = 8) (w : World) : Calls Tryd.prog 161 #[arr ws, .int .i64 c] w fun e w' => e = .returned (.bool (isWords ws && isCode c)) ∧ St w [] w' [] := by
  refine calls_walk_n (args := [arr ws, .int .i64 c]) Tryd.func161 rfl rfl rfl ?_
  have H := St.refl w
  refine WC.seq ?_
  refine WC.region ?_
  refine WL.boxArr H rfl rfl ?_
  intro b2 wx hb2 hge2 H
  refine WL.assign rfl rfl ?_
  refine (WL.done (WX.next ?_))
  refine WC.seq ?_
  refine WC.seq ?_
  refine WC.region ?_
  first | refine WL.load rfl (H.rdArr ty38 0 rfl h8) rfl ?_
  refine WL.move rfl rfl ?_
  refine (WL.done (WX.next ?_))
  refine WC.block ?_
  -- loop 1: changed [8] kept [1, 7]
  refine WC.loop (Sub.cons (t := 1) rfl (Sub.cons (t := 7) rfl (Sub.nil _))) (fun g : Nat => [(8, .int .i64 (g:Int))]) (fun k g wx => k = 8 - g ∧ g ≤ 8 ∧ (ws.take g).all isWord = true ∧ St w [] wx []) (8) (0) (Sub.cons (t := 8) (by first | rfl | simp) (Sub.nil _)) (⟨rfl, by omega, rfl, H.tail⟩) ?_
  rintro k g wx hI N hN
  obtain ⟨rfl, hg, ha, H⟩ := hI
  refine WC.seq ?_
  refine WC.region ?_
  refine WL.bin rfl rfl binv_lss rfl ?_
  refine (WL.done (WX.next ?_))
  refine WC.seq ?_
  first | refine WC.cond_dec rfl (fun c1 => ?_) (fun c1 => ?_) | refine WC.cond rfl (fun c1 => ?_) (fun c1 => ?_)
  · -- c1 T
    refine (WC.skip (WX.next ?_))
    refine WC.seq ?_
    refine WC.block ?_
    refine WC.seq ?_
    refine WC.region ?_
    refine WL.indexArr (ws := _) arr38 (by assumption) rfl rfl (by first | rfl | omega) (by omega) rfl ?_ (by intro el h; rw [Tryd.underlying38] at h; cases h; exact ty3)
    refine WL.assign rfl rfl ?_
    refine (WL.done (WX.next ?_))
    refine WC.seq ?_
    refine WC.region ?_
    refine WL.move rfl rfl ?_
    refine WL.bin rfl rfl binv_lss rfl ?_
    refine WL.move rfl rfl ?_
    first | refine WL.splitD (t := 13) rfl (fun g1 => ?_) (fun g1 => ?_) | refine WL.split (t := 13) rfl (fun g1 => ?_) (fun g1 => ?_)
    · -- g1 True
      refine WL.no rfl rfl rfl ?_
      refine WL.no rfl rfl rfl ?_
      refine WL.pickT rfl rfl rfl ?_
      refine (WL.done (WX.next ?_))
      refine WC.cond_true rfl (rfl) ?_
      refine WC.seq ?_
      refine WC.region ?_
      refine WL.assign rfl rfl ?_
      refine (WL.done (WX.next ?_))
      refine (WC.ret (WX.block_ret (WX.then_ret (WX.then_ret (WX.block_ret (WX.then_ret ?_))))))
      refine ret_one rfl rfl ?_
      exact ⟨by rw [isWords, all_false_of (g := g) (by omega) (isWord_no (by omega))]; rfl, H⟩
    · -- g1 False
      refine WL.yes rfl rfl ?_
      refine WL.move rfl rfl ?_
      refine WL.yes rfl rfl ?_
      refine WL.bin rfl rfl binv_gtr rfl ?_
      refine WL.pickF rfl rfl rfl ?_
      refine (WL.done (WX.next ?_))
      first | refine WC.cond_dec rfl (fun c3 => ?_) (fun c3 => ?_) | refine WC.cond rfl (fun c3 => ?_) (fun c3 => ?_)
      · -- c3 T
        refine WC.seq ?_
        refine WC.region ?_
        refine WL.assign rfl rfl ?_
        refine (WL.done (WX.next ?_))
        refine (WC.ret (WX.block_ret (WX.then_ret (WX.then_ret (WX.block_ret (WX.then_ret ?_))))))
        refine ret_one rfl rfl ?_
        exact ⟨by rw [isWords, all_false_of (g := g) (by omega) (isWord_no (by omega))]; rfl, H⟩
      · -- c3 F
        refine (WC.skip (WX.block_normal (WX.next ?_)))
        refine WC.region ?_
        refine WL.bin rfl rfl (iadd (by omega) (by omega)) rfl ?_
        refine WL.move rfl rfl ?_
        refine (WL.done (WX.round ?_))
        exact hN _ (g+1) _ _ (by omega) ⟨rfl, by omega, take_all_succ (by omega) ha (isWord_iff.2 ⟨by omega, by omega⟩), H⟩ (Sub.cons (t := 8) (by first | rfl | simp) (Sub.nil _)) (Sub.cons (t := 1) rfl (Sub.cons (t := 7) rfl (Sub.nil _)))
  · -- c1 F
    refine (WC.exit (WX.then_exit (WX.then_exit (WX.block_exit (WX.next ?_)))))
    refine WC.seq ?_
    refine WC.region ?_
    refine WL.move rfl rfl ?_
    refine WL.bin rfl rfl binv_geq rfl ?_
    refine WL.move rfl rfl ?_
    first | refine WL.splitD (t := 20) rfl (fun g2 => ?_) (fun g2 => ?_) | refine WL.split (t := 20) rfl (fun g2 => ?_) (fun g2 => ?_)
    · -- g2 True
      refine WL.yes rfl rfl ?_
      refine WL.move rfl rfl ?_
      refine WL.yes rfl rfl ?_
      refine WL.bin rfl rfl binv_leq rfl ?_
      refine WL.pickT rfl rfl rfl ?_
      refine WL.assign rfl rfl ?_
      refine (WL.done (WX.next ?_))
      refine (WC.ret ?_)
      refine ret_one rfl rfl ?_
      obtain rfl : g = 8 := by omega
      exact ⟨by rw [isWords, all_of_take (by rw [h8]; exact ha)]; congr 2; simp [isCode]; omega, H⟩
    · -- g2 False
      refine WL.no rfl rfl rfl ?_
      refine WL.no rfl rfl rfl ?_
      refine WL.pickF rfl rfl rfl ?_
      refine WL.assign rfl rfl ?_
      refine (WL.done (WX.next ?_))
      refine (WC.ret ?_)
      refine ret_one rfl rfl ?_
      obtain rfl : g = 8 := by omega
      exact ⟨by rw [isWords, all_of_take (by rw [h8]; exact ha)]; congr 2; simp [isCode]; omega, H⟩

theorem tz64_any (k m : Nat) (x : Int) (hx : x = ((2 ^ k * (2 * m + 1) : Nat) : Int)) (hlt : 2 ^ k * (2 * m + 1) < 2 ^ 64) (w : World) (hL : L64 w) : Calls Tryd.prog 202 #[.int .u64 x] w fun e w' => e = .returned (.int .i64 (k : Int)) ∧ w' = w := by
  have hpos : 0 < 2 ^ k := Nat.two_pow_pos k
  have hpos2 : 0 < 2 ^ k * (2 * m + 1) := Nat.mul_pos hpos (by omega)
  have hk : k < 64 := by
    rcases Nat.lt_or_ge k 64 with hl | hg
    · exact hl
    · exfalso
      have h1 : 2 ^ 64 ≤ 2 ^ k := Nat.pow_le_pow_right (by omega) hg
      have h2 : 2 ^ k * 1 ≤ 2 ^ k * (2 * m + 1) := Nat.mul_le_mul_left _ (by omega)
      omega
  have hand := and_sub_pow hlt
  have htab := tab64_at k hk
  generalize hX : 2 ^ k * (2 * m + 1) = X at hx hlt hpos2 hand
  obtain ⟨r, hr⟩ : ∃ r, r = 2 ^ k * 285870213051353865 % 18446744073709551616 / 2 ^ 58 := ⟨_, rfl⟩
  rw [← hr] at htab
  have hr64 : r < 64 := by have := Nat.mod_lt (2 ^ k * 285870213051353865) (show 0 < 18446744073709551616 by decide); omega
  have hrz : (((X : Int).toNat &&& ((2 ^ 64 - X : Nat) : Int).toNat : Nat) : Int) * 285870213051353865 % 18446744073709551616 / 2 ^ 58 = (r : Int) := by
    simp only [Int.toNat_natCast]; rw [hand, hr, Int.natCast_ediv, Int.natCast_emod, Int.natCast_mul]; rfl
  clear hr
  subst hx
  obtain ⟨tt, fr, hL⟩ := hL
  refine calls_walk_n (args := [.int .u64 _]) Tryd.func202 rfl rfl rfl ?_
  refine WC.seq ?_
  refine WC.region ?_
  refine WL.assign rfl rfl ?_
  refine (WL.done (WX.next ?_))
  refine WC.seq ?_
  refine WC.seq ?_
  refine WC.region ?_
  refine WL.move rfl rfl ?_
  refine WL.bin rfl rfl binv_eql rfl ?_
  refine (WL.done (WX.next ?_))
  refine WC.cond_false rfl (by simp; omega) ?_
  refine (WC.skip (WX.next ?_))
  refine WC.seq ?_
  refine WC.region ?_
  refine WL.move rfl rfl ?_
  refine WL.move rfl rfl ?_
  refine WL.negOp rfl rfl ?_
  rw [show IntKind.u64.wrap (0 - (X : Int)) = ((2 ^ 64 - X : Nat) : Int) from by simp only [IntKind.wrap, IntKind.bits, IntKind.signed, Bool.false_and, Bool.false_eq_true, if_false]; omega]
  refine WL.bin rfl rfl (uand (by omega) (by omega) (by omega) (by omega)) rfl ?_
  refine WL.bin rfl rfl (umul (by omega) (by omega)) rfl ?_
  refine WL.bin rfl rfl (ishr (m := 58) rfl (by decide) (by omega)) rfl ?_
  refine WL.idxArr (k := r) arr272 rfl rfl (hrz) (hr64) rfl ?_
  first | refine WL.load rfl (Rd.one ty5 (v := .int .u8 (k : Int)) (by rw [cell_of hL]; simp only [Nat.zero_add, Nat.mul_one, tab64C]; simp [htab])) rfl ?_
  refine WL.convert int5 int3 rfl (wrap_i64 (by omega) (by omega)) rfl ?_
  refine WL.assign rfl rfl ?_
  refine (WL.done (WX.next ?_))
  refine (WC.ret ?_)
  refine ret_one rfl rfl ?_
  exact ⟨rfl, rfl⟩

theorem tz_any (k m : Nat) (x : Int) (hx : x = ((2 ^ k * (2 * m + 1) : Nat) : Int)) (hlt : 2 ^ k * (2 * m + 1) < 2 ^ 64) (w : World) (hL : L64 w) : Calls Tryd.prog 168 #[.int .u64 x] w fun e w' => e = .returned (.int .i64 (k : Int)) ∧ w' = w := by
  refine calls_walk_n (args := [.int .u64 x]) Tryd.func168 rfl rfl rfl ?_
  refine WC.seq ?_
  refine WC.region ?_
  refine WL.assign rfl rfl ?_
  refine (WL.done (WX.next ?_))
  refine WC.seq ?_
  refine WC.cond_false rfl (rfl) ?_
  refine (WC.skip (WX.next ?_))
  refine WC.seq ?_
  refine WC.region ?_
  refine WL.move rfl rfl ?_
  refine WL.call call202 rfl rfl ?_
  refine Calls.mono (tz64_any k m _ hx hlt _ hL) ?_
  rintro _ wx ⟨rfl, rfl⟩
  refine ⟨_, rfl, ?_⟩
  refine WL.assign rfl rfl ?_
  refine (WL.done (WX.next ?_))
  refine (WC.ret ?_)
  refine ret_one rfl rfl ?_
  exact ⟨rfl, rfl⟩

theorem oc64_any (v : Nat) (hv : v < 1024) (w : World) : Calls Tryd.prog 200 #[.int .u64 (v : Int)] w fun e w' => e = .returned (.int .i64 (popc v : Int)) ∧ w' = w := by
  obtain ⟨f1, f2, f3, f4, f5, f6, f7, f8, f9, f10, f11, f12, f13, f14, f15, f16, f17⟩ := oc_facts v hv
  refine calls_walk_n (args := [.int .u64 (v : Int)]) Tryd.func200 rfl rfl rfl ?_
  refine WC.seq ?_
  refine WC.region ?_
  refine WL.assign rfl rfl ?_
  refine (WL.done (WX.next ?_))
  refine WC.seq ?_
  refine WC.region ?_
  refine WL.move rfl rfl ?_
  refine WL.bin rfl rfl (shrN (m := 1) rfl rfl (by decide)) rfl ?_
  refine WL.bin rfl rfl (uandN (b := 6148914691236517205) rfl rfl (by omega) (by omega)) rfl ?_
  refine WL.move rfl rfl ?_
  refine WL.bin rfl rfl (uandN (b := 6148914691236517205) rfl rfl (by omega) (by omega)) rfl ?_
  refine WL.bin rfl rfl (uaddN rfl rfl (by omega)) rfl ?_
  refine WL.assign rfl rfl ?_
  refine (WL.done (WX.next ?_))
  refine WC.seq ?_
  refine WC.region ?_
  refine WL.move rfl rfl ?_
  refine WL.bin rfl rfl (shrN (a := oc1 v) (m := 2) rfl rfl (by decide)) rfl ?_
  refine WL.bin rfl rfl (uandN (b := 3689348814741910323) rfl rfl (by omega) (by omega)) rfl ?_
  refine WL.move rfl rfl ?_
  refine WL.bin rfl rfl (uandN (a := oc1 v) (b := 3689348814741910323) rfl rfl (by omega) (by omega)) rfl ?_
  refine WL.bin rfl rfl (uaddN rfl rfl (by omega)) rfl ?_
  refine WL.assign rfl rfl ?_
  refine (WL.done (WX.next ?_))
  refine WC.seq ?_
  refine WC.region ?_
  refine WL.move rfl rfl ?_
  refine WL.bin rfl rfl (shrN (a := oc2 (oc1 v)) (m := 4) rfl rfl (by decide)) rfl ?_
  refine WL.move rfl rfl ?_
  refine WL.bin rfl rfl (uaddN (b := oc2 (oc1 v)) rfl rfl (by omega)) rfl ?_
  refine WL.bin rfl rfl (uandN (b := 1085102592571150095) rfl rfl (by omega) (by omega)) rfl ?_
  refine WL.assign rfl rfl ?_
  refine (WL.done (WX.next ?_))
  refine WC.seq ?_
  refine WC.region ?_
  refine WL.move rfl rfl ?_
  refine WL.move rfl rfl ?_
  refine WL.bin rfl rfl (shrN (a := oc3 (oc2 (oc1 v))) (m := 8) rfl rfl (by decide)) rfl ?_
  refine WL.bin rfl rfl (uaddN (a := oc3 (oc2 (oc1 v))) rfl rfl (by unfold oc4 at f12; omega)) rfl ?_
  refine WL.assign rfl rfl ?_
  refine (WL.done (WX.next ?_))
  refine WC.seq ?_
  refine WC.region ?_
  refine WL.move rfl rfl ?_
  refine WL.move rfl rfl ?_
  refine WL.bin rfl rfl (shrN (a := oc4 (oc3 (oc2 (oc1 v)))) (m := 16) rfl rfl (by decide)) rfl ?_
  refine WL.bin rfl rfl (uaddN (a := oc4 (oc3 (oc2 (oc1 v)))) rfl rfl (by omega)) rfl ?_
  refine WL.assign rfl rfl ?_
  refine (WL.done (WX.next ?_))
  refine WC.seq ?_
  refine WC.region ?_
  refine WL.move rfl rfl ?_
  refine WL.move rfl rfl ?_
  refine WL.bin rfl rfl (shrN (a := oc5 (oc4 (oc3 (oc2 (oc1 v))))) (m := 32) rfl rfl (by decide)) rfl ?_
  refine WL.bin rfl rfl (uaddN (a := oc5 (oc4 (oc3 (oc2 (oc1 v))))) rfl rfl (by omega)) rfl ?_
  refine WL.assign rfl rfl ?_
  refine (WL.done (WX.next ?_))
  refine WC.seq ?_
  refine WC.region ?_
  refine WL.move rfl rfl ?_
  refine WL.convert int250 int3 rfl (wrap_i64 (x := ((oc6 (oc5 (oc4 (oc3 (oc2 (oc1 v))))) : Nat) : Int)) (by omega) (by omega)) rfl ?_
  refine WL.bin rfl rfl (iandN (a := oc6 (oc5 (oc4 (oc3 (oc2 (oc1 v)))))) (b := 127) rfl rfl (by omega) (by omega)) rfl ?_
  refine WL.assign rfl rfl ?_
  refine (WL.done (WX.next ?_))
  refine (WC.ret ?_)
  refine ret_one rfl rfl ?_
  exact ⟨by rw [f17], rfl⟩

theorem oc_any (v : Nat) (hv : v < 1024) (w : World) : Calls Tryd.prog 163 #[.int .u64 (v : Int)] w fun e w' => e = .returned (.int .i64 (popc v : Int)) ∧ w' = w := by
  refine calls_walk_n (args := [.int .u64 (v : Int)]) Tryd.func163 rfl rfl rfl ?_
  refine WC.seq ?_
  refine WC.region ?_
  refine WL.assign rfl rfl ?_
  refine (WL.done (WX.next ?_))
  refine WC.seq ?_
  refine WC.cond_false rfl (rfl) ?_
  refine (WC.skip (WX.next ?_))
  refine WC.seq ?_
  refine WC.region ?_
  refine WL.move rfl rfl ?_
  refine WL.call call200 rfl rfl ?_
  refine Calls.mono (oc64_any v hv _) ?_
  rintro _ wx ⟨rfl, rfl⟩
  refine ⟨_, rfl, ?_⟩
  refine WL.assign rfl rfl ?_
  refine (WL.done (WX.next ?_))
  refine (WC.ret ?_)
  refine ret_one rfl rfl ?_
  exact ⟨rfl, rfl⟩

theorem len2_big : ∀ x, x < 1024 → 256 ≤ x → x / 2 ^ 8 < 256 ∧ len2 x = 8 + len2 (x / 2 ^ 8) := by decide +kernel
theorem len2_le : ∀ x, x < 1024 → len2 x ≤ 10 := by decide +kernel

theorem len64_any (x : Nat) (hx : x < 1024) (w : World) : Calls Tryd.prog 218 #[.int .u64 (x : Int)] w fun e w' => e = .returned (.int .i64 (len2 x : Int)) ∧ w' = w := by
  have hl := len2_le x hx
  refine calls_walk_n (args := [.int .u64 (x : Int)]) Tryd.func218 rfl rfl rfl ?_
  refine WC.seq ?_
  refine WC.region ?_
  refine WL.assign rfl rfl ?_
  refine (WL.done (WX.next ?_))
  refine WC.seq ?_
  refine WC.seq ?_
  refine WC.region ?_
  refine WL.move rfl rfl ?_
  refine WL.bin rfl rfl binv_geq rfl ?_
  refine (WL.done (WX.next ?_))
  refine WC.cond_false rfl (by simp; omega) ?_
  refine (WC.skip (WX.next ?_))
  refine WC.seq ?_
  refine WC.seq ?_
  refine WC.region ?_
  refine WL.move rfl rfl ?_
  refine WL.bin rfl rfl binv_geq rfl ?_
  refine (WL.done (WX.next ?_))
  refine WC.cond_false rfl (by simp; omega) ?_
  refine (WC.skip (WX.next ?_))
  refine WC.seq ?_
  refine WC.seq ?_
  refine WC.region ?_
  refine WL.move rfl rfl ?_
  refine WL.bin rfl rfl binv_geq rfl ?_
  refine (WL.done (WX.next ?_))
  first | refine WC.cond_dec rfl (fun c3 => ?_) (fun c3 => ?_) | refine WC.cond rfl (fun c3 => ?_) (fun c3 => ?_)
  · -- c3 T
    have hb := len2_big x hx (by omega)
    refine WC.seq ?_
    refine WC.region ?_
    refine WL.move rfl rfl ?_
    refine WL.bin rfl rfl (shrN (a := x) (m := 8) rfl rfl (by decide)) rfl ?_
    refine WL.assign rfl rfl ?_
    refine (WL.done (WX.next ?_))
    refine WC.region ?_
    refine WL.move rfl rfl ?_
    refine WL.bin rfl rfl (iadd (by omega) (by omega)) rfl ?_
    refine WL.assign rfl rfl ?_
    refine (WL.done (WX.next ?_))
    refine WC.seq ?_
    refine WC.region ?_
    refine WL.move rfl rfl ?_
    refine WL.move rfl rfl ?_
    refine WL.convert int250 int5 rfl (by simp only [IntKind.wrap, IntKind.bits, IntKind.signed, Bool.false_and, Bool.false_eq_true, if_false]; first | exact Int.emod_eq_of_lt (b := 2 ^ 8) (a := ((x : Nat) : Int)) (by omega) (by omega) | exact Int.emod_eq_of_lt (b := 2 ^ 8) (a := ((x / 2 ^ 8 : Nat) : Int)) (by omega) (by omega)) rfl ?_
    first | refine WL.indexStr (k := x) (g := len2) (m := 256) Tryd.underlying9 rfl rfl rfl (by decide +kernel) (by omega) rfl ?_ | refine WL.indexStr (k := x / 2 ^ 8) (g := len2) (m := 256) Tryd.underlying9 rfl rfl rfl (by decide +kernel) (by omega) rfl ?_
    refine WL.convert int5 int3 rfl (wrap_i64 (by omega) (by omega)) rfl ?_
    refine WL.bin rfl rfl (iadd (by omega) (by omega)) rfl ?_
    refine WL.assign rfl rfl ?_
    refine (WL.done (WX.next ?_))
    refine (WC.ret ?_)
    refine ret_one rfl rfl ?_
    exact ⟨reti (by rw [hb.2]; omega), rfl⟩
  · -- c3 F
    refine (WC.skip (WX.next ?_))
    refine WC.seq ?_
    refine WC.region ?_
    refine WL.move rfl rfl ?_
    refine WL.move rfl rfl ?_
    refine WL.convert int250 int5 rfl (by simp only [IntKind.wrap, IntKind.bits, IntKind.signed, Bool.false_and, Bool.false_eq_true, if_false]; first | exact Int.emod_eq_of_lt (b := 2 ^ 8) (a := ((x : Nat) : Int)) (by omega) (by omega) | exact Int.emod_eq_of_lt (b := 2 ^ 8) (a := ((x / 2 ^ 8 : Nat) : Int)) (by omega) (by omega)) rfl ?_
    first | refine WL.indexStr (k := x) (g := len2) (m := 256) Tryd.underlying9 rfl rfl rfl (by decide +kernel) (by omega) rfl ?_ | refine WL.indexStr (k := x / 2 ^ 8) (g := len2) (m := 256) Tryd.underlying9 rfl rfl rfl (by decide +kernel) (by omega) rfl ?_
    refine WL.convert int5 int3 rfl (wrap_i64 (by omega) (by omega)) rfl ?_
    refine WL.bin rfl rfl (iadd (by omega) (by omega)) rfl ?_
    refine WL.assign rfl rfl ?_
    refine (WL.done (WX.next ?_))
    refine (WC.ret ?_)
    refine ret_one rfl rfl ?_
    exact ⟨reti (by omega), rfl⟩

theorem len_any (x : Nat) (hx : x < 1024) (w : World) : Calls Tryd.prog 214 #[.int .u64 (x : Int)] w fun e w' => e = .returned (.int .i64 (len2 x : Int)) ∧ w' = w := by
  refine calls_walk_n (args := [.int .u64 (x : Int)]) Tryd.func214 rfl rfl rfl ?_
  refine WC.seq ?_
  refine WC.region ?_
  refine WL.assign rfl rfl ?_
  refine (WL.done (WX.next ?_))
  refine WC.seq ?_
  refine WC.cond_false rfl (rfl) ?_
  refine (WC.skip (WX.next ?_))
  refine WC.seq ?_
  refine WC.region ?_
  refine WL.move rfl rfl ?_
  refine WL.call call218 rfl rfl ?_
  refine Calls.mono (len64_any x hx _) ?_
  rintro _ wx ⟨rfl, rfl⟩
  refine ⟨_, rfl, ?_⟩
  refine WL.assign rfl rfl ?_
  refine (WL.done (WX.next ?_))
  refine (WC.ret ?_)
  refine ret_one rfl rfl ?_
  exact ⟨rfl, rfl⟩

theorem position_any (k t : Nat) (hk : k < 8) (ht : t < 40) (w : World) : Calls Tryd.prog 198 #[.int .i64 (k : Int), .int .i64 (t : Int)] w fun e w' => e = .returned (.int .i64 (posn (40 * k + t) : Int)) ∧ w' = w := by
  obtain ⟨j, hj⟩ : ∃ j, j = 40 * k + t + 1 := ⟨_, rfl⟩
  have hl := len2_le j (by omega)
  have hl2 := len2_le (j + len2 j) (by omega)
  have hp : posn (40 * k + t) = if len2 (j + len2 j) > len2 j then j + len2 j + 1 else j + len2 j := by subst hj; rfl
  rw [hp]
  clear hp
  refine calls_walk_n (args := [.int .i64 (k : Int), .int .i64 (t : Int)]) Tryd.func198 rfl rfl rfl ?_
  refine WC.seq ?_
  refine WC.region ?_
  refine WL.assign rfl rfl ?_
  refine (WL.done (WX.next ?_))
  refine WC.seq ?_
  refine WC.region ?_
  refine WL.move rfl rfl ?_
  refine WL.bin rfl rfl (imul (by omega) (by omega)) rfl ?_
  refine WL.move rfl rfl ?_
  refine WL.bin rfl rfl (iadd (by omega) (by omega)) rfl ?_
  rw [show ((k : Int) * 40 + (t : Int)) = ((40 * k + t : Nat) : Int) from by omega]
  refine WL.bin rfl rfl (iadd (by omega) (by omega)) rfl ?_
  rw [show (((40 * k + t : Nat) : Int) + 1) = (j : Int) from by omega]
  refine WL.assign rfl rfl ?_
  refine (WL.done (WX.next ?_))
  refine WC.seq ?_
  refine WC.region ?_
  refine WL.move rfl rfl ?_
  refine WL.move rfl rfl ?_
  refine WL.convert int3 int214 rfl (by first | exact wrap_i64 (by omega) (by omega) | exact wrap_u64 (by omega) (by omega)) rfl ?_
  refine WL.call call214 rfl rfl ?_
  refine Calls.mono (len_any _ (by omega) _) ?_
  rintro _ wx ⟨rfl, rfl⟩
  refine ⟨_, rfl, ?_⟩
  refine WL.bin rfl rfl (iadd (by omega) (by omega)) rfl ?_
  rw [show ((j : Int) + (len2 j : Int)) = ((j + len2 j : Nat) : Int) from by omega]
  refine WL.assign rfl rfl ?_
  refine (WL.done (WX.next ?_))
  refine WC.seq ?_
  refine WC.seq ?_
  refine WC.region ?_
  refine WL.move rfl rfl ?_
  refine WL.convert int3 int214 rfl (by first | exact wrap_i64 (by omega) (by omega) | exact wrap_u64 (by omega) (by omega)) rfl ?_
  refine WL.call call214 rfl rfl ?_
  refine Calls.mono (len_any _ (by omega) _) ?_
  rintro _ wx ⟨rfl, rfl⟩
  refine ⟨_, rfl, ?_⟩
  refine WL.move rfl rfl ?_
  refine WL.convert int3 int214 rfl (by first | exact wrap_i64 (by omega) (by omega) | exact wrap_u64 (by omega) (by omega)) rfl ?_
  refine WL.call call214 rfl rfl ?_
  refine Calls.mono (len_any _ (by omega) _) ?_
  rintro _ wx ⟨rfl, rfl⟩
  refine ⟨_, rfl, ?_⟩
  refine WL.bin rfl rfl binv_gtr rfl ?_
  refine (WL.done (WX.next ?_))
  first | refine WC.cond_dec rfl (fun c1 => ?_) (fun c1 => ?_) | refine WC.cond rfl (fun c1 => ?_) (fun c1 => ?_)
  · -- c1 T
    refine WC.region ?_
    refine WL.move rfl rfl ?_
    refine WL.bin rfl rfl (iadd (by omega) (by omega)) rfl ?_
    refine WL.assign rfl rfl ?_
    refine (WL.done (WX.next ?_))
    refine WC.seq ?_
    refine WC.region ?_
    refine WL.move rfl rfl ?_
    refine WL.assign rfl rfl ?_
    refine (WL.done (WX.next ?_))
    refine (WC.ret ?_)
    refine ret_one rfl rfl ?_
    exact ⟨by rw [if_pos (by omega)]; rfl, rfl⟩
  · -- c1 F
    refine (WC.skip (WX.next ?_))
    refine WC.seq ?_
    refine WC.region ?_
    refine WL.move rfl rfl ?_
    refine WL.assign rfl rfl ?_
    refine (WL.done (WX.next ?_))
    refine (WC.ret ?_)
    refine ret_one rfl rfl ?_
    exact ⟨by rw [if_neg (by omega)], rfl⟩

theorem exists_any (x y : Int) (w : World) : Calls Tryd.prog 215 #[.int .i64 x, .int .i64 y] w fun e w' => e = .returned (.bool (decide ((0 ≤ x ∧ x < 8 ∧ 0 ≤ y ∧ y < 40) ∨ (x = 8 ∧ 0 ≤ y ∧ y < 10)))) ∧ w' = w := by
  refine calls_walk_n (args := [.int .i64 x, .int .i64 y]) Tryd.func215 rfl rfl rfl ?_
  refine WC.seq ?_
  refine WC.region ?_
  refine WL.assign rfl rfl ?_
  refine (WL.done (WX.next ?_))
  refine WC.seq ?_
  refine WC.region ?_
  refine WL.move rfl rfl ?_
  refine WL.bin rfl rfl binv_geq rfl ?_
  refine WL.move rfl rfl ?_
  first | refine WL.splitD (t := 7) rfl (fun g1 => ?_) (fun g1 => ?_) | refine WL.split (t := 7) rfl (fun g1 => ?_) (fun g1 => ?_)
  · -- g1 True
    refine WL.yes rfl rfl ?_
    refine WL.move rfl rfl ?_
    refine WL.yes rfl rfl ?_
    refine WL.bin rfl rfl binv_lss rfl ?_
    refine WL.pickT rfl rfl rfl ?_
    refine WL.move rfl rfl ?_
    first | refine WL.splitD (t := 11) rfl (fun g2 => ?_) (fun g2 => ?_) | refine WL.split (t := 11) rfl (fun g2 => ?_) (fun g2 => ?_)
    · -- g2 True
      refine WL.yes rfl rfl ?_
      refine WL.move rfl rfl ?_
      refine WL.yes rfl rfl ?_
      refine WL.bin rfl rfl binv_geq rfl ?_
      refine WL.pickT rfl rfl rfl ?_
      refine WL.move rfl rfl ?_
      first | refine WL.splitD (t := 15) rfl (fun g3 => ?_) (fun g3 => ?_) | refine WL.split (t := 15) rfl (fun g3 => ?_) (fun g3 => ?_)
      · -- g3 True
        refine WL.yes rfl rfl ?_
        refine WL.move rfl rfl ?_
        refine WL.yes rfl rfl ?_
        refine WL.bin rfl rfl binv_lss rfl ?_
        refine WL.pickT rfl rfl rfl ?_
        refine WL.move rfl rfl ?_
        first | refine WL.splitD (t := 19) rfl (fun g4 => ?_) (fun g4 => ?_) | refine WL.split (t := 19) rfl (fun g4 => ?_) (fun g4 => ?_)
        · -- g4 True
          refine WL.no rfl rfl rfl ?_
          refine WL.no rfl rfl rfl ?_
          refine WL.no rfl rfl rfl ?_
          refine WL.noU rfl rfl rfl rfl ?_
          refine WL.noU rfl rfl rfl rfl ?_
          refine WL.no rfl rfl rfl ?_
          refine WL.no rfl rfl rfl ?_
          refine WL.noU rfl rfl rfl rfl ?_
          refine WL.noU rfl rfl rfl rfl ?_
          refine WL.no rfl rfl rfl ?_
          refine WL.pickT rfl rfl rfl ?_
          refine WL.assign rfl rfl ?_
          refine (WL.done (WX.next ?_))
          refine (WC.ret ?_)
          refine ret_one rfl rfl ?_
          exact ⟨retb (by simp; try omega), rfl⟩
        · -- g4 False
          refine WL.yes rfl rfl ?_
          refine WL.move rfl rfl ?_
          refine WL.yes rfl rfl ?_
          refine WL.bin rfl rfl binv_eql rfl ?_
          refine WL.yes rfl rfl ?_
          refine WL.move rfl rfl ?_
          first | refine WL.splitD (t := 22) rfl (fun g5 => ?_) (fun g5 => ?_) | refine WL.split (t := 22) rfl (fun g5 => ?_) (fun g5 => ?_)
          · -- g5 True
            refine WL.yes rfl rfl ?_
            refine WL.move rfl rfl ?_
            refine WL.yes rfl rfl ?_
            refine WL.bin rfl rfl binv_geq rfl ?_
            refine WL.yes rfl rfl ?_
            refine WL.pickT rfl rfl rfl ?_
            refine WL.yes rfl rfl ?_
            refine WL.move rfl rfl ?_
            first | refine WL.splitD (t := 26) rfl (fun g6 => ?_) (fun g6 => ?_) | refine WL.split (t := 26) rfl (fun g6 => ?_) (fun g6 => ?_)
            · -- g6 True
              refine WL.yes rfl rfl ?_
              refine WL.move rfl rfl ?_
              refine WL.yes rfl rfl ?_
              refine WL.bin rfl rfl binv_lss rfl ?_
              refine WL.yes rfl rfl ?_
              refine WL.pickT rfl rfl rfl ?_
              refine WL.pickF rfl rfl rfl ?_
              refine WL.assign rfl rfl ?_
              refine (WL.done (WX.next ?_))
              refine (WC.ret ?_)
              refine ret_one rfl rfl ?_
              exact ⟨retb (by simp; try omega), rfl⟩
            · -- g6 False
              refine WL.no rfl rfl rfl ?_
              refine WL.no rfl rfl rfl ?_
              refine WL.yes rfl rfl ?_
              refine WL.pickF rfl rfl rfl ?_
              refine WL.pickF rfl rfl rfl ?_
              refine WL.assign rfl rfl ?_
              refine (WL.done (WX.next ?_))
              refine (WC.ret ?_)
              refine ret_one rfl rfl ?_
              exact ⟨retb (by simp; try omega), rfl⟩
          · -- g5 False
            refine WL.no rfl rfl rfl ?_
            refine WL.no rfl rfl rfl ?_
            refine WL.yes rfl rfl ?_
            refine WL.pickF rfl rfl rfl ?_
            refine WL.yes rfl rfl ?_
            refine WL.move rfl rfl ?_
            refine WL.no rfl rfl rfl ?_
            refine WL.no rfl rfl rfl ?_
            refine WL.yes rfl rfl ?_
            refine WL.pickF rfl rfl rfl ?_
            refine WL.pickF rfl rfl rfl ?_
            refine WL.assign rfl rfl ?_
            refine (WL.done (WX.next ?_))
            refine (WC.ret ?_)
            refine ret_one rfl rfl ?_
            exact ⟨retb (by simp; try omega), rfl⟩
      · -- g3 False
        refine WL.no rfl rfl rfl ?_
        refine WL.no rfl rfl rfl ?_
        refine WL.pickF rfl rfl rfl ?_
        refine WL.move rfl rfl ?_
        refine WL.yes rfl rfl ?_
        refine WL.move rfl rfl ?_
        refine WL.yes rfl rfl ?_
        refine WL.bin rfl rfl binv_eql rfl ?_
        refine WL.yes rfl rfl ?_
        refine WL.move rfl rfl ?_
        first | refine WL.splitD (t := 22) rfl (fun g7 => ?_) (fun g7 => ?_) | refine WL.split (t := 22) rfl (fun g7 => ?_) (fun g7 => ?_)
        · -- g7 True
          refine WL.yes rfl rfl ?_
          refine WL.move rfl rfl ?_
          refine WL.yes rfl rfl ?_
          refine WL.bin rfl rfl binv_geq rfl ?_
          refine WL.yes rfl rfl ?_
          refine WL.pickT rfl rfl rfl ?_
          refine WL.yes rfl rfl ?_
          refine WL.move rfl rfl ?_
          first | refine WL.splitD (t := 26) rfl (fun g8 => ?_) (fun g8 => ?_) | refine WL.split (t := 26) rfl (fun g8 => ?_) (fun g8 => ?_)
          · -- g8 True
            refine WL.yes rfl rfl ?_
            refine WL.move rfl rfl ?_
            refine WL.yes rfl rfl ?_
            refine WL.bin rfl rfl binv_lss rfl ?_
            refine WL.yes rfl rfl ?_
            refine WL.pickT rfl rfl rfl ?_
            refine WL.pickF rfl rfl rfl ?_
            refine WL.assign rfl rfl ?_
            refine (WL.done (WX.next ?_))
            refine (WC.ret ?_)
            refine ret_one rfl rfl ?_
            exact ⟨retb (by simp; try omega), rfl⟩
          · -- g8 False
            refine WL.no rfl rfl rfl ?_
            refine WL.no rfl rfl rfl ?_
            refine WL.yes rfl rfl ?_
            refine WL.pickF rfl rfl rfl ?_
            refine WL.pickF rfl rfl rfl ?_
            refine WL.assign rfl rfl ?_
            refine (WL.done (WX.next ?_))
            refine (WC.ret ?_)
            refine ret_one rfl rfl ?_
            exact ⟨retb (by simp; try omega), rfl⟩
        · -- g7 False
          refine WL.no rfl rfl rfl ?_
          refine WL.no rfl rfl rfl ?_
          refine WL.yes rfl rfl ?_
          refine WL.pickF rfl rfl rfl ?_
          refine WL.yes rfl rfl ?_
          refine WL.move rfl rfl ?_
          refine WL.no rfl rfl rfl ?_
          refine WL.no rfl rfl rfl ?_
          refine WL.yes rfl rfl ?_
          refine WL.pickF rfl rfl rfl ?_
          refine WL.pickF rfl rfl rfl ?_
          refine WL.assign rfl rfl ?_
          refine (WL.done (WX.next ?_))
          refine (WC.ret ?_)
          refine ret_one rfl rfl ?_
          exact ⟨retb (by simp; try omega), rfl⟩
    · -- g2 False
      refine WL.no rfl rfl rfl ?_
      refine WL.no rfl rfl rfl ?_
      refine WL.pickF rfl rfl rfl ?_
      refine WL.move rfl rfl ?_
      refine WL.no rfl rfl rfl ?_
      refine WL.no rfl rfl rfl ?_
      refine WL.pickF rfl rfl rfl ?_
      refine WL.move rfl rfl ?_
      refine WL.yes rfl rfl ?_
      refine WL.move rfl rfl ?_
      refine WL.yes rfl rfl ?_
      refine WL.bin rfl rfl binv_eql rfl ?_
      refine WL.yes rfl rfl ?_
      refine WL.move rfl rfl ?_
      first | refine WL.splitD (t := 22) rfl (fun g9 => ?_) (fun g9 => ?_) | refine WL.split (t := 22) rfl (fun g9 => ?_) (fun g9 => ?_)
      · -- g9 True
        refine WL.yes rfl rfl ?_
        refine WL.move rfl rfl ?_
        refine WL.yes rfl rfl ?_
        refine WL.bin rfl rfl binv_geq rfl ?_
        refine WL.yes rfl rfl ?_
        refine WL.pickT rfl rfl rfl ?_
        refine WL.yes rfl rfl ?_
        refine WL.move rfl rfl ?_
        first | refine WL.splitD (t := 26) rfl (fun g10 => ?_) (fun g10 => ?_) | refine WL.split (t := 26) rfl (fun g10 => ?_) (fun g10 => ?_)
        · -- g10 True
          refine WL.yes rfl rfl ?_
          refine WL.move rfl rfl ?_
          refine WL.yes rfl rfl ?_
          refine WL.bin rfl rfl binv_lss rfl ?_
          refine WL.yes rfl rfl ?_
          refine WL.pickT rfl rfl rfl ?_
          refine WL.pickF rfl rfl rfl ?_
          refine WL.assign rfl rfl ?_
          refine (WL.done (WX.next ?_))
          refine (WC.ret ?_)
          refine ret_one rfl rfl ?_
          exact ⟨retb (by simp; try omega), rfl⟩
        · -- g10 False
          refine WL.no rfl rfl rfl ?_
          refine WL.no rfl rfl rfl ?_
          refine WL.yes rfl rfl ?_
          refine WL.pickF rfl rfl rfl ?_
          refine WL.pickF rfl rfl rfl ?_
          refine WL.assign rfl rfl ?_
          refine (WL.done (WX.next ?_))
          refine (WC.ret ?_)
          refine ret_one rfl rfl ?_
          exact ⟨retb (by simp; try omega), rfl⟩
      · -- g9 False
        refine WL.no rfl rfl rfl ?_
        refine WL.no rfl rfl rfl ?_
        refine WL.yes rfl rfl ?_
        refine WL.pickF rfl rfl rfl ?_
        refine WL.yes rfl rfl ?_
        refine WL.move rfl rfl ?_
        refine WL.no rfl rfl rfl ?_
        refine WL.no rfl rfl rfl ?_
        refine WL.yes rfl rfl ?_
        refine WL.pickF rfl rfl rfl ?_
        refine WL.pickF rfl rfl rfl ?_
        refine WL.assign rfl rfl ?_
        refine (WL.done (WX.next ?_))
        refine (WC.ret ?_)
        refine ret_one rfl rfl ?_
        exact ⟨retb (by simp; try omega), rfl⟩
  · -- g1 False
    refine WL.no rfl rfl rfl ?_
    refine WL.no rfl rfl rfl ?_
    refine WL.pickF rfl rfl rfl ?_
    refine WL.move rfl rfl ?_
    refine WL.no rfl rfl rfl ?_
    refine WL.no rfl rfl rfl ?_
    refine WL.pickF rfl rfl rfl ?_
    refine WL.move rfl rfl ?_
    refine WL.no rfl rfl rfl ?_
    refine WL.no rfl rfl rfl ?_
    refine WL.pickF rfl rfl rfl ?_
    refine WL.move rfl rfl ?_
    refine WL.yes rfl rfl ?_
    refine WL.move rfl rfl ?_
    refine WL.yes rfl rfl ?_
    refine WL.bin rfl rfl binv_eql rfl ?_
    refine WL.yes rfl rfl ?_
    refine WL.move rfl rfl ?_
    first | refine WL.splitD (t := 22) rfl (fun g11 => ?_) (fun g11 => ?_) | refine WL.split (t := 22) rfl (fun g11 => ?_) (fun g11 => ?_)
    · -- g11 True
      refine WL.yes rfl rfl ?_
      refine WL.move rfl rfl ?_
      refine WL.yes rfl rfl ?_
      refine WL.bin rfl rfl binv_geq rfl ?_
      refine WL.yes rfl rfl ?_
      refine WL.pickT rfl rfl rfl ?_
      refine WL.yes rfl rfl ?_
      refine WL.move rfl rfl ?_
      first | refine WL.splitD (t := 26) rfl (fun g12 => ?_) (fun g12 => ?_) | refine WL.split (t := 26) rfl (fun g12 => ?_) (fun g12 => ?_)
      · -- g12 True
        refine WL.yes rfl rfl ?_
        refine WL.move rfl rfl ?_
        refine WL.yes rfl rfl ?_
        refine WL.bin rfl rfl binv_lss rfl ?_
        refine WL.yes rfl rfl ?_
        refine WL.pickT rfl rfl rfl ?_
        refine WL.pickF rfl rfl rfl ?_
        refine WL.assign rfl rfl ?_
        refine (WL.done (WX.next ?_))
        refine (WC.ret ?_)
        refine ret_one rfl rfl ?_
        exact ⟨retb (by simp; try omega), rfl⟩
      · -- g12 False
        refine WL.no rfl rfl rfl ?_
        refine WL.no rfl rfl rfl ?_
        refine WL.yes rfl rfl ?_
        refine WL.pickF rfl rfl rfl ?_
        refine WL.pickF rfl rfl rfl ?_
        refine WL.assign rfl rfl ?_
        refine (WL.done (WX.next ?_))
        refine (WC.ret ?_)
        refine ret_one rfl rfl ?_
        exact ⟨retb (by simp; try omega), rfl⟩
    · -- g11 False
      refine WL.no rfl rfl rfl ?_
      refine WL.no rfl rfl rfl ?_
      refine WL.yes rfl rfl ?_
      refine WL.pickF rfl rfl rfl ?_
      refine WL.yes rfl rfl ?_
      refine WL.move rfl rfl ?_
      refine WL.no rfl rfl rfl ?_
      refine WL.no rfl rfl rfl ?_
      refine WL.yes rfl rfl ?_
      refine WL.pickF rfl rfl rfl ?_
      refine WL.pickF rfl rfl rfl ?_
      refine WL.assign rfl rfl ?_
      refine (WL.done (WX.next ?_))
      refine (WC.ret ?_)
      refine ret_one rfl rfl ?_
      exact ⟨retb (by simp; try omega), rfl⟩

end Go.Proofs.YtkncbggnaobgeaaDoor

/- Walks of functions of the program; printed by a program of this session (walk.py) out of hand-written hints. -/
namespace Go.Proofs.YtkncbggnaobgeaaDoor
open Go.RowKit
set_option linter.unusedVariables false
set_option linter.unusedSimpArgs false
set_option maxRecDepth 100000

theorem word_step {X : Nat} (h40 : X < 2 ^ 40) : ∀ d t, t + d = 40 → X / 2 ^ t * 2 ^ t ≠ 0 →
    ∃ t' m, t ≤ t' ∧ t' < 40 ∧ X.testBit t' = true ∧ (∀ i, t ≤ i → i < t' → X.testBit i = false) ∧ X / 2 ^ t * 2 ^ t = 2 ^ t' * (2 * m + 1) ∧ X / 2 ^ (t' + 1) = m
  | 0, t, ht, h => by
    exfalso
    have : t = 40 := by omega
    subst this
    rw [Nat.div_eq_of_lt h40] at h
    simp at h
  | d + 1, t, ht, h => by
    have hdiv : X / 2 ^ (t + 1) = X / 2 ^ t / 2 := by rw [Nat.pow_succ, Nat.div_div_eq_div_mul]
    have hb : X.testBit t = decide (X / 2 ^ t % 2 = 1) := by rw [Nat.testBit_eq_decide_div_mod_eq]
    by_cases hbit : X / 2 ^ t % 2 = 1
    · refine ⟨t, X / 2 ^ (t + 1), Nat.le_refl _, by omega, by rw [hb]; simpa using hbit, fun i h1 h2 => by omega, ?_, rfl⟩
      rw [hdiv, Nat.mul_comm (2 ^ t)]
      congr 1
      omega
    · have hsame : X / 2 ^ t * 2 ^ t = X / 2 ^ (t + 1) * 2 ^ (t + 1) := by
        have h2 : 2 ^ (t + 1) = 2 * 2 ^ t := by rw [Nat.pow_succ, Nat.mul_comm]
        rw [hdiv, h2, ← Nat.mul_assoc]
        congr 1
        omega
      obtain ⟨t', m, h1, h2, h3, h4, h5, h6⟩ := word_step h40 d (t + 1) (by omega) (by rw [← hsame]; exact h)
      refine ⟨t', m, by omega, h2, h3, fun i hi1 hi2 => ?_, by rw [hsame]; exact h5, h6⟩
      rcases Nat.lt_or_ge t i with hl | hg
      · exact h4 i hl hi2
      · have : i = t := by omega
        subst this
        rw [hb]; simpa using hbit
theorem and_pred {k m : Nat} : (2 ^ k * (2 * m + 1)) &&& (2 ^ k * (2 * m + 1) - 1) = m * 2 ^ (k + 1) := by
  have hp : 0 < 2 ^ k := Nat.two_pow_pos k
  have e1 : 2 ^ k * (2 * m + 1) - 1 = 2 ^ k * (2 * m) + (2 ^ k - 1) := by
    rw [Nat.mul_add, Nat.mul_one]; omega
  have e2 : m * 2 ^ (k + 1) = 2 ^ k * (2 * m) := by rw [Nat.pow_succ]; rw [Nat.mul_comm m, Nat.mul_assoc]
  rw [e1, e2]
  apply Nat.eq_of_testBit_eq
  intro i
  rw [Nat.testBit_and, Nat.testBit_two_pow_mul, Nat.testBit_two_pow_mul_add _ (by omega), Nat.testBit_two_pow_mul]
  by_cases hi : i < k
  · have h1 : ¬ i ≥ k := by omega
    simp [h1]
  · have h1 : i ≥ k := by omega
    simp only [h1, decide_true, Bool.true_and, hi, if_false]
    rcases Nat.eq_or_lt_of_le h1 with he | hl
    · subst he; simp [Nat.testBit_zero]
    · obtain ⟨d, hd⟩ : ∃ d, i - k = d + 1 := ⟨i - k - 1, by omega⟩
      rw [hd, Nat.testBit_succ, Nat.testBit_succ]
      have e3 : (2 * m + 1) / 2 = m := by omega
      have e4 : 2 * m / 2 = m := by omega
      rw [e3, e4, Bool.and_self]
theorem bitAt_word (ws : List Int) {g t : Nat} (ht : t < 40) : bitAt ws (40 * g + t) = (ws.getD g 0).toNat.testBit t := by
  unfold bitAt
  rw [show (40 * g + t) / 40 = g from by omega, show (40 * g + t) % 40 = t from by omega]
theorem syn_done {ws : List Int} {g t : Nat} (ht : t ≤ 40) (hw : (ws.getD g 0).toNat < 2 ^ 40) (h : (ws.getD g 0).toNat / 2 ^ t * 2 ^ t = 0) : synTo ws (40 * g + t) = synTo ws (40 * (g + 1)) := by
  have := synTo_skip ws (40 * g + t) (40 - t) (fun j h1 h2 => by
    obtain ⟨i, rfl⟩ : ∃ i, j = 40 * g + i := ⟨j - 40 * g, by omega⟩
    rw [bitAt_word ws (by omega), Nat.testBit_eq_decide_div_mod_eq]
    have hz : (ws.getD g 0).toNat / 2 ^ t = 0 := by
      rcases Nat.mul_eq_zero.1 h with h | h
      · exact h
      · have := Nat.two_pow_pos t; omega
    have hlt := (Nat.div_eq_zero_iff.1 hz).resolve_left (by have := Nat.two_pow_pos t; omega)
    have : (ws.getD g 0).toNat < 2 ^ i := Nat.lt_of_lt_of_le hlt (Nat.pow_le_pow_right (by omega) (by omega))
    rw [Nat.div_eq_of_lt this]; simp)
  rw [← this]; congr 1; omega
theorem syn_step {ws : List Int} {g t t' : Nat} (h1 : t ≤ t') (h2 : t' < 40) (hb : (ws.getD g 0).toNat.testBit t' = true) (hn : ∀ i, t ≤ i → i < t' → (ws.getD g 0).toNat.testBit i = false) :
    synTo ws (40 * g + (t' + 1)) = ((synTo ws (40 * g + t)).1 ^^^ posn (40 * g + t'), (synTo ws (40 * g + t)).2 + 1) := by
  have := synTo_skip ws (40 * g + t) (t' - t) (fun j h1 h2 => by
    obtain ⟨i, rfl⟩ : ∃ i, j = 40 * g + i := ⟨j - 40 * g, by omega⟩
    rw [bitAt_word ws (by omega)]
    exact hn i (by omega) (by omega))
  rw [show 40 * g + (t' + 1) = (40 * g + t') + 1 from rfl, synTo, bitAt_word ws h2, hb, if_pos rfl]
  rw [← this, show 40 * g + t + (t' - t) = 40 * g + t' from by omega]

theorem sum_any (ws : List Int) (h8 : ws.length = 8) (hw : isWords ws = true) (w : World) (hL : L64 w) : Calls Tryd.prog 162 #[arr ws] w fun e w' => e = .returned (.tuple #[.int .i64 (syn ws : Int), .int .i64 (cnt ws : Int)]) ∧ St w [] w' [] := by
  refine calls_walk_n (args := [arr ws]) Tryd.func162 rfl rfl rfl ?_
  have H := St.refl w
  refine WC.seq ?_
  refine WC.region ?_
  refine WL.boxArr H rfl rfl ?_
  intro b1 wx hb1 hge1 H
  refine WL.assign rfl rfl ?_
  refine WL.assign rfl rfl ?_
  refine (WL.done (WX.next ?_))
  refine WC.seq ?_
  refine WC.seq ?_
  refine WC.region ?_
  refine WL.load rfl (H.rdArr ty38 0 rfl h8) rfl ?_
  refine WL.move rfl rfl ?_
  refine (WL.done (WX.next ?_))
  refine WC.block ?_
  -- loop 1: changed [2, 3, 7] kept [6]
  refine WC.loop (Sub.cons (t := 6) rfl (Sub.nil _)) (fun g : Nat => [(2, .int .i64 ((synTo ws (40 * g)).1 : Int)), (3, .int .i64 ((synTo ws (40 * g)).2 : Int)), (7, .int .i64 (g : Int))]) (fun k g wx => k = 8 - g ∧ g ≤ 8 ∧ St w [] wx []) (8) (0) (Sub.cons (t := 2) (by rfl) (Sub.cons (t := 3) (by rfl) (Sub.cons (t := 7) (by rfl) (Sub.nil _)))) (⟨rfl, by omega, H.tail⟩) ?_
  rintro k g wx hI N hN
  obtain ⟨rfl, hg, H⟩ := hI
  refine WC.seq ?_
  refine WC.region ?_
  refine WL.bin rfl rfl binv_lss rfl ?_
  refine (WL.done (WX.next ?_))
  refine WC.seq ?_
  refine WC.cond_dec rfl (fun c1 => ?_) (fun c1 => ?_)
  ·
    refine (WC.skip (WX.next ?_))
    refine WC.seq ?_
    refine WC.block ?_
    refine WC.seq ?_
    refine WC.region ?_
    refine WL.move rfl rfl ?_
    refine WL.indexArr (ws := _) arr38 (by assumption) rfl rfl (by rfl) (by omega) rfl ?_ (by intro el h; rw [Tryd.underlying38] at h; cases h; exact ty3)
    refine WL.assign rfl rfl ?_
    refine WL.assign rfl rfl ?_
    refine (WL.done (WX.next ?_))
    refine WC.block ?_
    -- loop 2: changed [2, 3, 5] kept [4, 6, 7]
    have hlt : g < 8 := by omega
    obtain ⟨g0, hg0⟩ : ∃ g0, g0 = g := ⟨_, rfl⟩
    subst hg0
    have hN0 := hN
    clear hN
    have hrange := isWords_get hw (g := g0) (by omega)
    obtain ⟨X, hX⟩ : ∃ X : Nat, ws.getD g0 0 = (X : Int) := ⟨(ws.getD g0 0).toNat, by omega⟩
    have hXn : (ws.getD g0 0).toNat = X := by omega
    have hX40 : X < 2 ^ 40 := by omega
    refine WC.loop (Sub.cons (t := 4) rfl (Sub.cons (t := 6) rfl (Sub.cons (t := 7) rfl (Sub.nil _)))) (fun t : Nat => [(2, .int .i64 ((synTo ws (40 * g0 + t)).1 : Int)), (3, .int .i64 ((synTo ws (40 * g0 + t)).2 : Int)), (5, .int .i64 ((X / 2 ^ t * 2 ^ t : Nat) : Int))]) (fun k t wx => k = 40 - t ∧ t ≤ 40 ∧ St w [] wx []) (40) (0) (Sub.cons (t := 2) rfl (Sub.cons (t := 3) rfl (Sub.cons (t := 5) (by rw [Nat.pow_zero, Nat.div_one, Nat.mul_one, ← hX]; rfl) (Sub.nil _)))) (⟨rfl, by omega, H⟩) ?_
    rintro k g wx hI N hN
    obtain ⟨rfl, ht, H⟩ := hI
    obtain ⟨Y, hY⟩ : ∃ Y, Y = X / 2 ^ g * 2 ^ g := ⟨_, rfl⟩
    rw [← hY]
    have hYle : Y ≤ X := by rw [hY]; exact Nat.div_mul_le_self _ _
    refine WC.seq ?_
    refine WC.seq ?_
    refine WC.region ?_
    refine WL.move rfl rfl ?_
    refine WL.bin rfl rfl binv_neq rfl ?_
    refine (WL.done (WX.next ?_))
    refine WC.cond_dec rfl (fun c2 => ?_) (fun c2 => ?_)
    ·
      have hYne : Y ≠ 0 := by omega
      obtain ⟨t', m, ht1, ht2, hb, hno, hYe, hm⟩ := word_step hX40 (40 - g) g (by omega) (by rw [← hY]; exact hYne)
      rw [← hY] at hYe
      have hsl := synTo_lt ws (40 * g0 + g) (by omega)
      have hpf := posn_facts (40 * g0 + t') (by omega)
      refine (WC.skip (WX.next ?_))
      refine WC.seq ?_
      refine WC.block ?_
      refine WC.seq ?_
      refine WC.region ?_
      refine WL.move rfl rfl ?_
      refine WL.move rfl rfl ?_
      refine WL.move rfl rfl ?_
      refine WL.convert int3 int214 rfl (by exact wrap_u64 (by omega) (by omega)) rfl ?_
      refine WL.call call168 rfl rfl ?_
      refine Calls.mono (tz_any t' m _ (by rw [← hYe]) (by rw [← hYe]; omega) _ (hL.of0 H)) ?_
      rintro _ wx ⟨rfl, rfl⟩
      refine ⟨_, rfl, ?_⟩
      refine WL.call call198 rfl rfl ?_
      refine Calls.mono (position_any g0 t' (by omega) (by omega) _) ?_
      rintro _ wx ⟨rfl, rfl⟩
      refine ⟨_, rfl, ?_⟩
      refine WL.bin rfl rfl (ixorN rfl rfl (by omega) (by omega)) rfl ?_
      refine WL.assign rfl rfl ?_
      refine (WL.done (WX.next ?_))
      refine WC.region ?_
      refine WL.move rfl rfl ?_
      refine WL.bin rfl rfl (iaddN (b := 1) rfl rfl (by omega)) rfl ?_
      refine WL.assign rfl rfl ?_
      refine (WL.done (WX.block_normal (WX.next ?_)))
      refine WC.region ?_
      refine WL.move rfl rfl ?_
      refine WL.move rfl rfl ?_
      refine WL.bin rfl rfl (isub (by omega) (by omega)) rfl ?_
      refine WL.bin rfl rfl (iandN (a := Y) (b := Y - 1) rfl (by omega) (by omega) (by omega)) rfl ?_
      refine WL.assign rfl rfl ?_
      refine (WL.done (WX.round ?_))
      have hst := syn_step (ws := ws) (g := g0) ht1 ht2 (by rw [hXn]; exact hb) (by rw [hXn]; exact hno)
      exact hN _ (t' + 1) _ _ (by omega) ⟨rfl, by omega, H⟩ (Sub.cons (t := 2) (by rw [hst]; rfl) (Sub.cons (t := 3) (by rw [hst]; rfl) (Sub.cons (t := 5) (by rw [hm, ← and_pred, ← hYe]; rfl) (Sub.nil _)))) (Sub.cons rfl (Sub.cons rfl (Sub.cons rfl (Sub.nil _))))
    ·
      refine (WC.exit (WX.then_exit (WX.then_exit (WX.block_exit (WX.block_normal (WX.next ?_))))))
      refine WC.region ?_
      refine WL.bin rfl rfl (iadd (by omega) (by omega)) rfl ?_
      refine WL.move rfl rfl ?_
      refine (WL.done (WX.round ?_))
      have hY0 : Y = 0 := by omega
      have hsd := syn_done (ws := ws) (g := g0) (t := g) (by omega) (by rw [hXn]; exact hX40) (by rw [hXn, ← hY]; exact hY0)
      exact hN0 _ (g0+1) _ _ (by omega) ⟨rfl, by omega, H⟩ (Sub.cons (t := 2) (by rw [← hsd]; rfl) (Sub.cons (t := 3) (by rw [← hsd]; rfl) (Sub.cons (t := 7) rfl (Sub.nil _)))) (Sub.cons rfl (Sub.nil _))
  ·
    refine (WC.exit (WX.then_exit (WX.then_exit (WX.block_exit (WX.next ?_)))))
    refine WC.seq ?_
    refine WC.region ?_
    refine WL.move rfl rfl ?_
    refine WL.move rfl rfl ?_
    refine WL.assign rfl rfl ?_
    refine WL.assign rfl rfl ?_
    refine (WL.done (WX.next ?_))
    refine (WC.ret ?_)
    refine ret_two rfl rfl rfl ?_
    obtain rfl : g = 8 := by omega
    exact ⟨rfl, H⟩

end Go.Proofs.YtkncbggnaobgeaaDoor

/- Walks of functions of the program; printed by a program of this session (walk.py) out of hand-written hints. -/
namespace Go.Proofs.YtkncbggnaobgeaaDoor
open Go.RowKit
set_option linter.unusedVariables false
set_option linter.unusedSimpArgs false
set_option maxRecDepth 100000

theorem flip_words {ws : List Int} {g b : Nat} (h8 : ws.length = 8) (hw : isWords ws = true) (hg : g < 8) (hb : b < 40) : (ws.getD g 0).toNat ^^^ 2 ^ b < 2 ^ 40 ∧ isWords (ws.set g (((ws.getD g 0).toNat ^^^ 2 ^ b : Nat) : Int)) = true := by
  have h1 := isWords_get hw (g := g) (by omega)
  have h2 : (ws.getD g 0).toNat ^^^ 2 ^ b < 2 ^ 40 := Nat.xor_lt_two_pow (by omega) (Nat.pow_lt_pow_right (by omega) hb)
  refine ⟨h2, ?_⟩
  unfold isWords at hw ⊢
  rw [List.all_eq_true] at hw ⊢
  intro x hx
  rcases List.mem_or_eq_of_mem_set hx with hx | rfl
  · exact hw x hx
  · exact isWord_iff.2 ⟨by omega, by omega⟩
theorem pow_lt63 {b : Nat} (hb : b < 40) : (1 : Int) * 2 ^ b ≤ 9223372036854775807 ∧ (1 : Int) * 2 ^ b = ((2 ^ b : Nat) : Int) ∧ 2 ^ b < 9223372036854775808 := by
  have h : 2 ^ b < 2 ^ 40 := Nat.pow_lt_pow_right (by omega) hb
  have e : (1 : Int) * 2 ^ b = ((2 ^ b : Nat) : Int) := by rw [Int.natCast_pow, Int.one_mul]; rfl
  exact ⟨by rw [e]; omega, e, by omega⟩

theorem encode_any (ws : List Int) (h8 : ws.length = 8) (w : World) (hL : L64 w) : Calls Tryd.prog 97 #[arr ws] w fun e w' => e = .returned (.int .i64 (enc ws)) ∧ St w [] w' [] := by
  refine calls_walk_n (args := [arr ws]) Tryd.func97 rfl rfl rfl ?_
  have H := St.refl w
  refine WC.seq ?_
  refine WC.region ?_
  refine WL.boxArr H rfl rfl ?_
  intro b1 wx hb1 hge1 H
  refine WL.assign rfl rfl ?_
  refine (WL.done (WX.next ?_))
  refine WC.seq ?_
  refine WC.seq ?_
  refine WC.region ?_
  refine WL.load rfl (H.rdArr ty38 0 rfl h8) rfl ?_
  refine WL.call call161 rfl rfl ?_
  refine Calls.mono (valid_any ws 0 h8 _) ?_
  rintro _ wx ⟨rfl, Hc⟩
  refine ⟨_, rfl, ?_⟩
  replace H := H.call0 Hc
  refine WL.notOp rfl rfl ?_
  refine (WL.done (WX.next ?_))
  refine WC.cond rfl (fun c1 => ?_) (fun c1 => ?_)
  ·
    have hno : isWords ws = false := by simpa [isCode] using c1
    refine WC.seq ?_
    refine WC.region ?_
    refine WL.assign rfl rfl ?_
    refine (WL.done (WX.next ?_))
    refine (WC.ret (WX.then_ret ?_))
    refine ret_one rfl rfl ?_
    exact ⟨by rw [enc, hno]; rfl, H.tail⟩
  ·
    have hw : isWords ws = true := by simpa [isCode] using c1
    have hsl := syn_lt ws
    have hcl := cnt_le ws
    have hpl : popc (syn ws) ≤ 10 := by unfold popc; omega
    refine (WC.skip (WX.next ?_))
    refine WC.seq ?_
    refine WC.region ?_
    refine WL.load rfl (H.rdArr ty38 0 rfl h8) rfl ?_
    refine WL.call call162 rfl rfl ?_
    refine Calls.mono (sum_any ws h8 hw _ (hL.of0 H)) ?_
    rintro _ wx ⟨rfl, Hc⟩
    refine ⟨_, rfl, ?_⟩
    replace H := H.call0 Hc
    refine WL.move rfl rfl ?_
    refine WL.extract rfl rfl rfl ?_
    refine WL.extract rfl rfl rfl ?_
    refine WL.assign rfl rfl ?_
    refine WL.assign rfl rfl ?_
    refine (WL.done (WX.next ?_))
    refine WC.seq ?_
    refine WC.seq ?_
    refine WC.region ?_
    refine WL.move rfl rfl ?_
    refine WL.move rfl rfl ?_
    refine WL.convert int3 int214 rfl (wrap_u64 (by omega) (by omega)) rfl ?_
    refine WL.call call163 rfl rfl ?_
    refine Calls.mono (oc_any (syn ws) (by omega) _) ?_
    rintro _ wx ⟨rfl, rfl⟩
    refine ⟨_, rfl, ?_⟩
    refine WL.bin rfl rfl (iadd (by omega) (by omega)) rfl ?_
    refine WL.bin rfl rfl (irem (by omega) (by omega)) rfl ?_
    refine WL.bin rfl rfl binv_eql rfl ?_
    refine (WL.done (WX.next ?_))
    refine WC.cond_dec rfl (fun c2 => ?_) (fun c2 => ?_)
    ·
      refine WC.region ?_
      refine WL.move rfl rfl ?_
      refine WL.bin rfl rfl (iorN (b := 512) rfl rfl (by omega) (by omega)) rfl ?_
      refine WL.assign rfl rfl ?_
      refine (WL.done (WX.next ?_))
      refine WC.seq ?_
      refine WC.region ?_
      refine WL.move rfl rfl ?_
      refine WL.assign rfl rfl ?_
      refine (WL.done (WX.next ?_))
      refine (WC.ret ?_)
      refine ret_one rfl rfl ?_
      exact ⟨by rw [enc, if_pos hw, if_pos (by omega)], H.tail⟩
    ·
      refine (WC.skip (WX.next ?_))
      refine WC.seq ?_
      refine WC.region ?_
      refine WL.move rfl rfl ?_
      refine WL.assign rfl rfl ?_
      refine (WL.done (WX.next ?_))
      refine (WC.ret ?_)
      refine ret_one rfl rfl ?_
      exact ⟨by rw [enc, if_pos hw, if_neg (by omega)], H.tail⟩

theorem flip_any (ws : List Int) (h8 : ws.length = 8) (hw : isWords ws = true) (c : Int) (hc : isCode c = true) (x y : Nat) (hxy : (x < 8 ∧ y < 40) ∨ (x = 8 ∧ y < 10)) (w : World) : Calls Tryd.prog 204 #[arr ws, .int .i64 c, .int .i64 (x : Int), .int .i64 (y : Int)] w fun e w' => e = .returned (.tuple #[arr (flipBit ws c x y).1, .int .i64 (flipBit ws c x y).2]) ∧ St w [] w' [] := by
  have hc1 := isCode_iff.1 hc
  have hy40 : y < 40 := by omega
  obtain ⟨p1, p2, p3⟩ := pow_lt63 hy40
  refine calls_walk_n (args := [arr ws, .int .i64 c, .int .i64 (x : Int), .int .i64 (y : Int)]) Tryd.func204 rfl rfl rfl ?_
  have H := St.refl w
  refine WC.seq ?_
  refine WC.region ?_
  refine WL.boxArr H rfl rfl ?_
  intro b4 wx hb4 hge4 H
  refine WL.allocArr (ws := zeros8) H zer38 rfl rfl ?_
  intro b8 wx hb8 hge8 H
  refine WL.assign rfl rfl ?_
  refine (WL.done (WX.next ?_))
  refine WC.seq ?_
  refine WC.block ?_
  refine WC.seq ?_
  refine WC.region ?_
  refine WL.move rfl rfl ?_
  refine WL.move rfl rfl ?_
  refine WL.call call215 rfl rfl ?_
  refine Calls.mono (exists_any _ _ _) ?_
  rintro _ wx ⟨rfl, rfl⟩
  refine ⟨_, rfl, ?_⟩
  refine WL.notOp rfl rfl ?_
  refine WL.assign rfl rfl ?_
  refine (WL.done (WX.next ?_))
  refine WC.cond_false rfl (by simp; omega) ?_
  refine WC.seq ?_
  refine WC.region ?_
  refine WL.move rfl rfl ?_
  refine WL.bin rfl rfl binv_eql rfl ?_
  refine WL.assign rfl rfl ?_
  refine (WL.done (WX.next ?_))
  refine WC.cond_dec rfl (fun c2 => ?_) (fun c2 => ?_)
  ·
    refine WC.region ?_
    refine WL.move rfl rfl ?_
    refine WL.move rfl rfl ?_
    refine WL.bin rfl rfl (ishl (m := y) rfl (by omega) (by omega) p1) rfl ?_
    rw [p2]
    refine WL.bin rfl rfl (ixorN (a := c.toNat) (by omega) rfl (by omega) (by omega)) rfl ?_
    refine WL.assign rfl rfl ?_
    refine (WL.done (WX.block_normal (WX.next ?_)))
    refine WC.seq ?_
    refine WC.region ?_
    refine WL.load rfl (H.rdArr ty38 1 rfl (by simp [h8])) rfl ?_
    refine WL.move rfl rfl ?_
    refine WL.storeArr H ty38 0 rfl rfl rfl (by rw [arrC_size]; rfl) (by simp [h8]) ?_
    intro wx H
    refine WL.assign rfl rfl ?_
    refine (WL.done (WX.next ?_))
    refine (WC.ret ?_)
    refine ret_two rfl ⟨_, rfl, by exact H.rdArr ty38 0 rfl (by simp [h8])⟩ rfl ?_
    exact ⟨by rw [flipBit, if_pos (by omega)], H.weaken (List.nil_sublist _)⟩
  ·
    replace H := H.drew
    refine WC.held (SX (World.drew wx) [b4]) (by kernel_rfl) ?_
    generalize World.drew wx = wb at H ⊢
    have HB := H.single 1 rfl
    have hf := flip_words h8 hw (g := x) (b := y) (by omega) hy40
    have hg := isWords_get hw (g := x) (by omega)
    refine WH.take 0 rfl (by kernel_rfl) (by kernel_rfl) (by kernel_rfl) (fun _ _ _ h => h) ⟨_, HB⟩ (fun w' hS => EX.move rfl) rfl ?_
    refine WH.take 1 rfl (by kernel_rfl) (by kernel_rfl) (by kernel_rfl) (fun _ _ _ h => h) ⟨_, HB⟩ (fun w' hS => EX.idxArr (k := x) arr38 rfl rfl (by rfl) (by omega)) rfl ?_
    refine WH.take 3 rfl (by kernel_rfl) (by kernel_rfl) (by kernel_rfl) (fun _ _ _ h => h) ⟨_, HB⟩ (fun w' hS => EX.move rfl) rfl ?_
    refine WH.take 4 rfl (by kernel_rfl) (by kernel_rfl) (by kernel_rfl) (fun _ _ _ h => h) ⟨_, HB⟩ (fun w' hS => EX.bin rfl rfl (p2 ▸ ishl (m := y) rfl (by omega) (by omega) p1)) rfl ?_
    refine WH.hard 2 rfl (by kernel_rfl) ?_
    refine WL.load rfl (HB.rdElt ty3 0 rfl (by omega)) rfl ?_
    refine WL.done (WX.heldOn ⟨_, HB⟩ ?_)
    refine WH.take 5 rfl (by kernel_rfl) (by kernel_rfl) (by kernel_rfl) (fun _ _ _ h => h) ⟨_, HB⟩ (fun w' hS => EX.bin rfl rfl (ixorN (a := (ws.getD x 0).toNat) (by simp only [Nat.zero_add, Nat.mul_one]; omega) rfl (by omega) (by omega))) rfl ?_
    refine WH.take 6 rfl (by kernel_rfl) (by kernel_rfl) (by kernel_rfl) (fun _ _ _ h => h) ⟨_, HB⟩ (fun w' hS => EX.idxArr (k := x) arr38 rfl rfl (by rfl) (by omega)) rfl ?_
    refine WH.hard 7 rfl (by kernel_rfl) ?_
    refine WL.storeElt HB ty3 0 rfl rfl rfl (by omega) ?_
    intro wx HB
    refine WL.done (WX.heldOn ⟨_, HB⟩ ?_)
    refine WH.done (by kernel_rfl) ?_
    replace H := H.back (N := []) 1 rfl HB rfl
    refine (WX.block_normal (WX.next ?_))
    refine WC.seq ?_
    refine WC.region ?_
    refine WL.load rfl (H.rdArr ty38 1 rfl (by simp [h8])) rfl ?_
    refine WL.move rfl rfl ?_
    refine WL.storeArr H ty38 0 rfl rfl rfl (by rw [arrC_size]; rfl) (by simp [h8]) ?_
    intro wx H
    refine WL.assign rfl rfl ?_
    refine (WL.done (WX.next ?_))
    refine (WC.ret ?_)
    refine ret_two rfl ⟨_, rfl, by exact H.rdArr ty38 0 rfl (by simp [h8])⟩ rfl ?_
    exact ⟨by rw [flipBit, if_neg (by omega)]; simp only [Nat.zero_add, Nat.mul_one], H.weaken (List.nil_sublist _)⟩

end Go.Proofs.YtkncbggnaobgeaaDoor
