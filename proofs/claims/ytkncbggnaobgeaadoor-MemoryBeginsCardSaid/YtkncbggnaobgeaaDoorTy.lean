/- Facts on the program's types, fields and functions, one by one. Written by a program of this session (gentypes.py). -/
import Derived.Test.YtkncbggnaobgeaaDoorArr
import Derived.Test.YtkncbggnaobgeaaDoorProg
import Derived.KernelRfl
namespace Go.Proofs.YtkncbggnaobgeaaDoor
open Go.RowKit
set_option maxRecDepth 100000
theorem ty3 : tyB Tryd.prog 3 false 1 = true := by kernel_rfl
theorem ty4 : tyB Tryd.prog 4 false 1 = true := by kernel_rfl
theorem ty5 : tyB Tryd.prog 5 false 1 = true := by kernel_rfl
theorem ty25 : tyB Tryd.prog 25 false 1 = true := by kernel_rfl
theorem ty30 : tyB Tryd.prog 30 false 1 = true := by kernel_rfl
theorem ty38 : tyB Tryd.prog 38 true 8 = true := by kernel_rfl
theorem ty40 : tyB Tryd.prog 40 true 9 = true := by kernel_rfl
theorem ty43 : tyB Tryd.prog 43 false 1 = true := by kernel_rfl
theorem ty47 : tyB Tryd.prog 47 false 1 = true := by kernel_rfl
theorem ty50 : tyB Tryd.prog 50 false 1 = true := by kernel_rfl
theorem ty52 : tyB Tryd.prog 52 false 1 = true := by kernel_rfl
theorem ty60 : tyB Tryd.prog 60 true 12 = true := by kernel_rfl
theorem ty66 : tyB Tryd.prog 66 false 1 = true := by kernel_rfl
theorem ty67 : tyB Tryd.prog 67 false 1 = true := by kernel_rfl
theorem ty68 : tyB Tryd.prog 68 true 2 = true := by kernel_rfl
theorem ty70 : tyB Tryd.prog 70 true 8 = true := by kernel_rfl
theorem ty77 : tyB Tryd.prog 77 true 4 = true := by kernel_rfl
theorem ty87 : tyB Tryd.prog 87 false 1 = true := by kernel_rfl
theorem ty89 : tyB Tryd.prog 89 true 3 = true := by kernel_rfl
theorem ty95 : tyB Tryd.prog 95 true 8 = true := by kernel_rfl
theorem ty98 : tyB Tryd.prog 98 false 1 = true := by kernel_rfl
theorem ty100 : tyB Tryd.prog 100 true 2 = true := by kernel_rfl
theorem ty104 : tyB Tryd.prog 104 true 5 = true := by kernel_rfl
theorem ty109 : tyB Tryd.prog 109 true 2 = true := by kernel_rfl
theorem ty111 : tyB Tryd.prog 111 true 2 = true := by kernel_rfl
theorem ty123 : tyB Tryd.prog 123 false 1 = true := by kernel_rfl
theorem ty125 : tyB Tryd.prog 125 true 2 = true := by kernel_rfl
theorem ty156 : tyB Tryd.prog 156 false 1 = true := by kernel_rfl
theorem ty158 : tyB Tryd.prog 158 true 11 = true := by kernel_rfl
theorem ty159 : tyB Tryd.prog 159 false 1 = true := by kernel_rfl
theorem ty161 : tyB Tryd.prog 161 true 4 = true := by kernel_rfl
theorem ty164 : tyB Tryd.prog 164 true 12 = true := by kernel_rfl
theorem ty184 : tyB Tryd.prog 184 true 11 = true := by kernel_rfl
theorem ty189 : tyB Tryd.prog 189 true 2 = true := by kernel_rfl
theorem ty199 : tyB Tryd.prog 199 false 1 = true := by kernel_rfl
theorem ty204 : tyB Tryd.prog 204 false 1 = true := by kernel_rfl
theorem ty206 : tyB Tryd.prog 206 true 3 = true := by kernel_rfl
theorem ty209 : tyB Tryd.prog 209 false 1 = true := by kernel_rfl
theorem ty210 : tyB Tryd.prog 210 false 1 = true := by kernel_rfl
theorem ty212 : tyB Tryd.prog 212 true 5 = true := by kernel_rfl
theorem ty220 : tyB Tryd.prog 220 true 9 = true := by kernel_rfl
theorem ty230 : tyB Tryd.prog 230 true 2 = true := by kernel_rfl
theorem ty248 : tyB Tryd.prog 248 true 2 = true := by kernel_rfl
theorem ty250 : tyB Tryd.prog 250 false 1 = true := by kernel_rfl
theorem ty252 : tyB Tryd.prog 252 true 1 = true := by kernel_rfl
theorem ty263 : tyB Tryd.prog 263 true 3 = true := by kernel_rfl
theorem fld40_0 : fieldB Tryd.prog 40 0 0 = true := by kernel_rfl
theorem fld40_1 : fieldB Tryd.prog 40 1 8 = true := by kernel_rfl
theorem fld60_0 : fieldB Tryd.prog 60 0 0 = true := by kernel_rfl
theorem fld60_1 : fieldB Tryd.prog 60 1 1 = true := by kernel_rfl
theorem fld60_2 : fieldB Tryd.prog 60 2 2 = true := by kernel_rfl
theorem fld60_3 : fieldB Tryd.prog 60 3 3 = true := by kernel_rfl
theorem fld60_4 : fieldB Tryd.prog 60 4 11 = true := by kernel_rfl
theorem fld70_0 : fieldB Tryd.prog 70 0 0 = true := by kernel_rfl
theorem fld70_1 : fieldB Tryd.prog 70 1 1 = true := by kernel_rfl
theorem fld70_2 : fieldB Tryd.prog 70 2 2 = true := by kernel_rfl
theorem fld70_3 : fieldB Tryd.prog 70 3 3 = true := by kernel_rfl
theorem fld70_4 : fieldB Tryd.prog 70 4 4 = true := by kernel_rfl
theorem fld70_5 : fieldB Tryd.prog 70 5 5 = true := by kernel_rfl
theorem fld70_6 : fieldB Tryd.prog 70 6 7 = true := by kernel_rfl
theorem fld77_0 : fieldB Tryd.prog 77 0 0 = true := by kernel_rfl
theorem fld77_1 : fieldB Tryd.prog 77 1 1 = true := by kernel_rfl
theorem fld77_2 : fieldB Tryd.prog 77 2 2 = true := by kernel_rfl
theorem fld77_3 : fieldB Tryd.prog 77 3 3 = true := by kernel_rfl
theorem fld89_0 : fieldB Tryd.prog 89 0 0 = true := by kernel_rfl
theorem fld89_1 : fieldB Tryd.prog 89 1 1 = true := by kernel_rfl
theorem fld89_2 : fieldB Tryd.prog 89 2 2 = true := by kernel_rfl
theorem fld95_0 : fieldB Tryd.prog 95 0 0 = true := by kernel_rfl
theorem fld95_1 : fieldB Tryd.prog 95 1 1 = true := by kernel_rfl
theorem fld95_2 : fieldB Tryd.prog 95 2 2 = true := by kernel_rfl
theorem fld95_3 : fieldB Tryd.prog 95 3 3 = true := by kernel_rfl
theorem fld95_4 : fieldB Tryd.prog 95 4 4 = true := by kernel_rfl
theorem fld95_5 : fieldB Tryd.prog 95 5 5 = true := by kernel_rfl
theorem fld95_6 : fieldB Tryd.prog 95 6 6 = true := by kernel_rfl
theorem fld95_7 : fieldB Tryd.prog 95 7 7 = true := by kernel_rfl
theorem fld100_0 : fieldB Tryd.prog 100 0 0 = true := by kernel_rfl
theorem fld100_1 : fieldB Tryd.prog 100 1 1 = true := by kernel_rfl
theorem fld109_0 : fieldB Tryd.prog 109 0 0 = true := by kernel_rfl
theorem fld109_1 : fieldB Tryd.prog 109 1 1 = true := by kernel_rfl
theorem fld111_0 : fieldB Tryd.prog 111 0 0 = true := by kernel_rfl
theorem fld111_1 : fieldB Tryd.prog 111 1 1 = true := by kernel_rfl
theorem fld125_0 : fieldB Tryd.prog 125 0 0 = true := by kernel_rfl
theorem fld125_1 : fieldB Tryd.prog 125 1 1 = true := by kernel_rfl
theorem fld158_0 : fieldB Tryd.prog 158 0 0 = true := by kernel_rfl
theorem fld158_1 : fieldB Tryd.prog 158 1 9 = true := by kernel_rfl
theorem fld158_2 : fieldB Tryd.prog 158 2 10 = true := by kernel_rfl
theorem fld161_0 : fieldB Tryd.prog 161 0 0 = true := by kernel_rfl
theorem fld161_1 : fieldB Tryd.prog 161 1 1 = true := by kernel_rfl
theorem fld161_2 : fieldB Tryd.prog 161 2 2 = true := by kernel_rfl
theorem fld161_3 : fieldB Tryd.prog 161 3 3 = true := by kernel_rfl
theorem fld164_0 : fieldB Tryd.prog 164 0 0 = true := by kernel_rfl
theorem fld164_1 : fieldB Tryd.prog 164 1 1 = true := by kernel_rfl
theorem fld164_2 : fieldB Tryd.prog 164 2 2 = true := by kernel_rfl
theorem fld164_3 : fieldB Tryd.prog 164 3 3 = true := by kernel_rfl
theorem fld164_4 : fieldB Tryd.prog 164 4 4 = true := by kernel_rfl
theorem fld184_0 : fieldB Tryd.prog 184 0 0 = true := by kernel_rfl
theorem fld184_1 : fieldB Tryd.prog 184 1 8 = true := by kernel_rfl
theorem fld184_2 : fieldB Tryd.prog 184 2 9 = true := by kernel_rfl
theorem fld184_3 : fieldB Tryd.prog 184 3 10 = true := by kernel_rfl
theorem fld189_0 : fieldB Tryd.prog 189 0 0 = true := by kernel_rfl
theorem fld189_1 : fieldB Tryd.prog 189 1 1 = true := by kernel_rfl
theorem fld206_0 : fieldB Tryd.prog 206 0 0 = true := by kernel_rfl
theorem fld206_1 : fieldB Tryd.prog 206 1 1 = true := by kernel_rfl
theorem fld206_2 : fieldB Tryd.prog 206 2 2 = true := by kernel_rfl
theorem fld212_0 : fieldB Tryd.prog 212 0 0 = true := by kernel_rfl
theorem fld212_1 : fieldB Tryd.prog 212 1 1 = true := by kernel_rfl
theorem fld212_2 : fieldB Tryd.prog 212 2 2 = true := by kernel_rfl
theorem fld212_3 : fieldB Tryd.prog 212 3 3 = true := by kernel_rfl
theorem fld212_4 : fieldB Tryd.prog 212 4 4 = true := by kernel_rfl
theorem fld220_0 : fieldB Tryd.prog 220 0 0 = true := by kernel_rfl
theorem fld220_1 : fieldB Tryd.prog 220 1 8 = true := by kernel_rfl
theorem fld230_0 : fieldB Tryd.prog 230 0 0 = true := by kernel_rfl
theorem fld230_1 : fieldB Tryd.prog 230 1 1 = true := by kernel_rfl
theorem fld248_0 : fieldB Tryd.prog 248 0 0 = true := by kernel_rfl
theorem fld248_1 : fieldB Tryd.prog 248 1 1 = true := by kernel_rfl
theorem fld252_0 : fieldB Tryd.prog 252 0 0 = true := by kernel_rfl
theorem fld263_0 : fieldB Tryd.prog 263 0 0 = true := by kernel_rfl
theorem fld263_1 : fieldB Tryd.prog 263 1 1 = true := by kernel_rfl
theorem fld263_2 : fieldB Tryd.prog 263 2 2 = true := by kernel_rfl
theorem arr38 : arrB Tryd.prog 38 8 1 = true := by kernel_rfl
theorem arr68 : arrB Tryd.prog 68 2 1 = true := by kernel_rfl
theorem arr249 : arrB Tryd.prog 249 2 2 = true := by kernel_rfl
theorem arr268 : arrB Tryd.prog 268 16 1 = true := by kernel_rfl
theorem arr271 : arrB Tryd.prog 271 32 1 = true := by kernel_rfl
theorem arr272 : arrB Tryd.prog 272 64 1 = true := by kernel_rfl
theorem slc23 : slcB Tryd.prog 23 9 = true := by kernel_rfl
theorem isl23 : isSlcB Tryd.prog 23 = true := by kernel_rfl
theorem slc30 : slcB Tryd.prog 30 12 = true := by kernel_rfl
theorem isl30 : isSlcB Tryd.prog 30 = true := by kernel_rfl
theorem slc35 : slcB Tryd.prog 35 12 = true := by kernel_rfl
theorem isl35 : isSlcB Tryd.prog 35 = true := by kernel_rfl
theorem slc43 : slcB Tryd.prog 43 1 = true := by kernel_rfl
theorem isl43 : isSlcB Tryd.prog 43 = true := by kernel_rfl
theorem slc45 : slcB Tryd.prog 45 8 = true := by kernel_rfl
theorem isl45 : isSlcB Tryd.prog 45 = true := by kernel_rfl
theorem slc50 : slcB Tryd.prog 50 2 = true := by kernel_rfl
theorem isl50 : isSlcB Tryd.prog 50 = true := by kernel_rfl
theorem slc52 : slcB Tryd.prog 52 2 = true := by kernel_rfl
theorem isl52 : isSlcB Tryd.prog 52 = true := by kernel_rfl
theorem slc66 : slcB Tryd.prog 66 1 = true := by kernel_rfl
theorem isl66 : isSlcB Tryd.prog 66 = true := by kernel_rfl
theorem slc71 : slcB Tryd.prog 71 4 = true := by kernel_rfl
theorem isl71 : isSlcB Tryd.prog 71 = true := by kernel_rfl
theorem slc87 : slcB Tryd.prog 87 11 = true := by kernel_rfl
theorem isl87 : isSlcB Tryd.prog 87 = true := by kernel_rfl
theorem slc92 : slcB Tryd.prog 92 2 = true := by kernel_rfl
theorem isl92 : isSlcB Tryd.prog 92 = true := by kernel_rfl
theorem slc98 : slcB Tryd.prog 98 2 = true := by kernel_rfl
theorem isl98 : isSlcB Tryd.prog 98 = true := by kernel_rfl
theorem slc123 : slcB Tryd.prog 123 2 = true := by kernel_rfl
theorem isl123 : isSlcB Tryd.prog 123 = true := by kernel_rfl
theorem slc156 : slcB Tryd.prog 156 11 = true := by kernel_rfl
theorem isl156 : isSlcB Tryd.prog 156 = true := by kernel_rfl
theorem slc199 : slcB Tryd.prog 199 3 = true := by kernel_rfl
theorem isl199 : isSlcB Tryd.prog 199 = true := by kernel_rfl
theorem slc256 : slcB Tryd.prog 256 1 = true := by kernel_rfl
theorem isl256 : isSlcB Tryd.prog 256 = true := by kernel_rfl
theorem int3 : intB Tryd.prog 3 .i64 = true := by kernel_rfl
theorem int5 : intB Tryd.prog 5 .u8 = true := by kernel_rfl
theorem int67 : intB Tryd.prog 67 .u16 = true := by kernel_rfl
theorem int138 : intB Tryd.prog 138 .u32 = true := by kernel_rfl
theorem int214 : intB Tryd.prog 214 .u64 = true := by kernel_rfl
theorem int250 : intB Tryd.prog 250 .u64 = true := by kernel_rfl
theorem zer3 : ZeroIs Tryd.prog 3 #[.int .i64 0] := zeroIs_of (u := .int .i64 0) (by kernel_rfl) rfl
theorem zer4 : ZeroIs Tryd.prog 4 #[.bool false] := zeroIs_of (u := .bool false) (by kernel_rfl) rfl
theorem zer5 : ZeroIs Tryd.prog 5 #[.int .u8 0] := zeroIs_of (u := .int .u8 0) (by kernel_rfl) rfl
theorem zer38 : ZeroIs Tryd.prog 38 #[.int .i64 0, .int .i64 0, .int .i64 0, .int .i64 0, .int .i64 0, .int .i64 0, .int .i64 0, .int .i64 0] := zeroIs_of (u := .agg #[.int .i64 0, .int .i64 0, .int .i64 0, .int .i64 0, .int .i64 0, .int .i64 0, .int .i64 0, .int .i64 0]) (by kernel_rfl) rfl
theorem zer40 : ZeroIs Tryd.prog 40 #[.int .i64 0, .int .i64 0, .int .i64 0, .int .i64 0, .int .i64 0, .int .i64 0, .int .i64 0, .int .i64 0, .int .i64 0] := zeroIs_of (u := .agg #[.int .i64 0, .int .i64 0, .int .i64 0, .int .i64 0, .int .i64 0, .int .i64 0, .int .i64 0, .int .i64 0, .int .i64 0]) (by kernel_rfl) rfl
theorem zer47 : ZeroIs Tryd.prog 47 #[.int .i64 0] := zeroIs_of (u := .int .i64 0) (by kernel_rfl) rfl
theorem zer77 : ZeroIs Tryd.prog 77 #[.int .i64 0, .int .i64 0, .int .i64 0, .int .i64 0] := zeroIs_of (u := .agg #[.int .i64 0, .int .i64 0, .int .i64 0, .int .i64 0]) (by kernel_rfl) rfl
theorem zer89 : ZeroIs Tryd.prog 89 #[.slice none 0 0, .int .i64 0, .slice none 0 0] := zeroIs_of (u := .agg #[.slice none 0 0, .int .i64 0, .slice none 0 0]) (by kernel_rfl) rfl
theorem zer95 : ZeroIs Tryd.prog 95 #[.int .i64 0, .int .i64 0, .int .i64 0, .int .i64 0, .int .i64 0, .int .i64 0, .int .i64 0, .int .i64 0] := zeroIs_of (u := .agg #[.int .i64 0, .int .i64 0, .int .i64 0, .int .i64 0, .int .i64 0, .int .i64 0, .int .i64 0, .int .i64 0]) (by kernel_rfl) rfl
theorem zer104 : ZeroIs Tryd.prog 104 #[.int .i64 0, .int .i64 0, .int .i64 0, .int .i64 0, .slice none 0 0] := zeroIs_of (u := .agg #[.int .i64 0, .int .i64 0, .int .i64 0, .int .i64 0, .slice none 0 0]) (by kernel_rfl) rfl
theorem zer109 : ZeroIs Tryd.prog 109 #[.int .i64 0, .int .i64 0] := zeroIs_of (u := .agg #[.int .i64 0, .int .i64 0]) (by kernel_rfl) rfl
theorem zer111 : ZeroIs Tryd.prog 111 #[.int .i64 0, .int .i64 0] := zeroIs_of (u := .agg #[.int .i64 0, .int .i64 0]) (by kernel_rfl) rfl
theorem zer125 : ZeroIs Tryd.prog 125 #[.int .i64 0, .slice none 0 0] := zeroIs_of (u := .agg #[.int .i64 0, .slice none 0 0]) (by kernel_rfl) rfl
theorem zer158 : ZeroIs Tryd.prog 158 #[.int .i64 0, .int .i64 0, .int .i64 0, .int .i64 0, .int .i64 0, .int .i64 0, .int .i64 0, .int .i64 0, .int .i64 0, .slice none 0 0, .int .i64 0] := zeroIs_of (u := .agg #[.int .i64 0, .int .i64 0, .int .i64 0, .int .i64 0, .int .i64 0, .int .i64 0, .int .i64 0, .int .i64 0, .int .i64 0, .slice none 0 0, .int .i64 0]) (by kernel_rfl) rfl
theorem zer161 : ZeroIs Tryd.prog 161 #[.slice none 0 0, .map none, .int .i64 0, .slice none 0 0] := zeroIs_of (u := .agg #[.slice none 0 0, .map none, .int .i64 0, .slice none 0 0]) (by kernel_rfl) rfl
theorem zer164 : ZeroIs Tryd.prog 164 #[.int .i64 0, .int .i64 0, .int .i64 0, .int .i64 0, .int .i64 0, .int .i64 0, .int .i64 0, .int .i64 0, .int .i64 0, .int .i64 0, .int .i64 0, .int .i64 0] := zeroIs_of (u := .agg #[.int .i64 0, .int .i64 0, .int .i64 0, .int .i64 0, .int .i64 0, .int .i64 0, .int .i64 0, .int .i64 0, .int .i64 0, .int .i64 0, .int .i64 0, .int .i64 0]) (by kernel_rfl) rfl
theorem zer184 : ZeroIs Tryd.prog 184 #[.int .i64 0, .int .i64 0, .int .i64 0, .int .i64 0, .int .i64 0, .int .i64 0, .int .i64 0, .int .i64 0, .int .i64 0, .slice none 0 0, .int .i64 0] := zeroIs_of (u := .agg #[.int .i64 0, .int .i64 0, .int .i64 0, .int .i64 0, .int .i64 0, .int .i64 0, .int .i64 0, .int .i64 0, .int .i64 0, .slice none 0 0, .int .i64 0]) (by kernel_rfl) rfl
theorem zer189 : ZeroIs Tryd.prog 189 #[.int .i64 0, .int .i64 0] := zeroIs_of (u := .agg #[.int .i64 0, .int .i64 0]) (by kernel_rfl) rfl
theorem zer199 : ZeroIs Tryd.prog 199 #[.slice none 0 0] := zeroIs_of (u := .slice none 0 0) (by kernel_rfl) rfl
theorem zer206 : ZeroIs Tryd.prog 206 #[.int .i64 0, .int .i64 0, .slice none 0 0] := zeroIs_of (u := .agg #[.int .i64 0, .int .i64 0, .slice none 0 0]) (by kernel_rfl) rfl
theorem zer212 : ZeroIs Tryd.prog 212 #[.slice none 0 0, .slice none 0 0, .slice none 0 0, .map none, .map none] := zeroIs_of (u := .agg #[.slice none 0 0, .slice none 0 0, .slice none 0 0, .map none, .map none]) (by kernel_rfl) rfl
theorem zer220 : ZeroIs Tryd.prog 220 #[.int .i64 0, .int .i64 0, .int .i64 0, .int .i64 0, .int .i64 0, .int .i64 0, .int .i64 0, .int .i64 0, .slice none 0 0] := zeroIs_of (u := .agg #[.int .i64 0, .int .i64 0, .int .i64 0, .int .i64 0, .int .i64 0, .int .i64 0, .int .i64 0, .int .i64 0, .slice none 0 0]) (by kernel_rfl) rfl
theorem zer230 : ZeroIs Tryd.prog 230 #[.int .i64 0, .int .i64 0] := zeroIs_of (u := .agg #[.int .i64 0, .int .i64 0]) (by kernel_rfl) rfl
theorem zer252 : ZeroIs Tryd.prog 252 #[.int .u64 0] := zeroIs_of (u := .agg #[.int .u64 0]) (by kernel_rfl) rfl
theorem zer263 : ZeroIs Tryd.prog 263 #[.int .i64 0, .int .i64 0, .int .i64 0] := zeroIs_of (u := .agg #[.int .i64 0, .int .i64 0, .int .i64 0]) (by kernel_rfl) rfl
theorem pla40 : placesOf Tryd.prog 40 = some [(0, 8), (8, 1)] := by kernel_rfl
theorem pla77 : placesOf Tryd.prog 77 = some [(0, 1), (1, 1), (2, 1), (3, 1)] := by kernel_rfl
theorem pla89 : placesOf Tryd.prog 89 = some [(0, 1), (1, 1), (2, 1)] := by kernel_rfl
theorem pla95 : placesOf Tryd.prog 95 = some [(0, 1), (1, 1), (2, 1), (3, 1), (4, 1), (5, 1), (6, 1), (7, 1)] := by kernel_rfl
theorem pla104 : placesOf Tryd.prog 104 = some [(0, 1), (1, 1), (2, 1), (3, 1), (4, 1)] := by kernel_rfl
theorem pla109 : placesOf Tryd.prog 109 = some [(0, 1), (1, 1)] := by kernel_rfl
theorem pla111 : placesOf Tryd.prog 111 = some [(0, 1), (1, 1)] := by kernel_rfl
theorem pla125 : placesOf Tryd.prog 125 = some [(0, 1), (1, 1)] := by kernel_rfl
theorem pla158 : placesOf Tryd.prog 158 = some [(0, 9), (9, 1), (10, 1)] := by kernel_rfl
theorem pla161 : placesOf Tryd.prog 161 = some [(0, 1), (1, 1), (2, 1), (3, 1)] := by kernel_rfl
theorem pla164 : placesOf Tryd.prog 164 = some [(0, 1), (1, 1), (2, 1), (3, 1), (4, 8)] := by kernel_rfl
theorem pla184 : placesOf Tryd.prog 184 = some [(0, 8), (8, 1), (9, 1), (10, 1)] := by kernel_rfl
theorem pla189 : placesOf Tryd.prog 189 = some [(0, 1), (1, 1)] := by kernel_rfl
theorem pla206 : placesOf Tryd.prog 206 = some [(0, 1), (1, 1), (2, 1)] := by kernel_rfl
theorem pla212 : placesOf Tryd.prog 212 = some [(0, 1), (1, 1), (2, 1), (3, 1), (4, 1)] := by kernel_rfl
theorem pla220 : placesOf Tryd.prog 220 = some [(0, 8), (8, 1)] := by kernel_rfl
theorem pla230 : placesOf Tryd.prog 230 = some [(0, 1), (1, 1)] := by kernel_rfl
theorem pla252 : placesOf Tryd.prog 252 = some [(0, 1)] := by kernel_rfl
theorem pla263 : placesOf Tryd.prog 263 = some [(0, 1), (1, 1), (2, 1)] := by kernel_rfl
theorem call22 : callB Tryd.prog 22 = true := by kernel_rfl
theorem call23 : callB Tryd.prog 23 = true := by kernel_rfl
theorem call24 : callB Tryd.prog 24 = true := by kernel_rfl
theorem call25 : callB Tryd.prog 25 = true := by kernel_rfl
theorem call26 : callB Tryd.prog 26 = true := by kernel_rfl
theorem call27 : callB Tryd.prog 27 = true := by kernel_rfl
theorem call28 : callB Tryd.prog 28 = true := by kernel_rfl
theorem call29 : callB Tryd.prog 29 = true := by kernel_rfl
theorem call30 : callB Tryd.prog 30 = true := by kernel_rfl
theorem call31 : callB Tryd.prog 31 = true := by kernel_rfl
theorem call32 : callB Tryd.prog 32 = true := by kernel_rfl
theorem call33 : callB Tryd.prog 33 = true := by kernel_rfl
theorem call34 : callB Tryd.prog 34 = true := by kernel_rfl
theorem call35 : callB Tryd.prog 35 = true := by kernel_rfl
theorem call36 : callB Tryd.prog 36 = true := by kernel_rfl
theorem call37 : callB Tryd.prog 37 = true := by kernel_rfl
theorem call38 : callB Tryd.prog 38 = true := by kernel_rfl
theorem call39 : callB Tryd.prog 39 = true := by kernel_rfl
theorem call40 : callB Tryd.prog 40 = true := by kernel_rfl
theorem call41 : callB Tryd.prog 41 = true := by kernel_rfl
theorem call42 : callB Tryd.prog 42 = true := by kernel_rfl
theorem call43 : callB Tryd.prog 43 = true := by kernel_rfl
theorem call44 : callB Tryd.prog 44 = true := by kernel_rfl
theorem call45 : callB Tryd.prog 45 = true := by kernel_rfl
theorem call46 : callB Tryd.prog 46 = true := by kernel_rfl
theorem call47 : callB Tryd.prog 47 = true := by kernel_rfl
theorem call48 : callB Tryd.prog 48 = true := by kernel_rfl
theorem call49 : callB Tryd.prog 49 = true := by kernel_rfl
theorem call50 : callB Tryd.prog 50 = true := by kernel_rfl
theorem call51 : callB Tryd.prog 51 = true := by kernel_rfl
theorem call52 : callB Tryd.prog 52 = true := by kernel_rfl
theorem call53 : callB Tryd.prog 53 = true := by kernel_rfl
theorem call54 : callB Tryd.prog 54 = true := by kernel_rfl
theorem call55 : callB Tryd.prog 55 = true := by kernel_rfl
theorem call56 : callB Tryd.prog 56 = true := by kernel_rfl
theorem call57 : callB Tryd.prog 57 = true := by kernel_rfl
theorem call58 : callB Tryd.prog 58 = true := by kernel_rfl
theorem call59 : callB Tryd.prog 59 = true := by kernel_rfl
theorem call60 : callB Tryd.prog 60 = true := by kernel_rfl
theorem call61 : callB Tryd.prog 61 = true := by kernel_rfl
theorem call62 : callB Tryd.prog 62 = true := by kernel_rfl
theorem call63 : callB Tryd.prog 63 = true := by kernel_rfl
theorem call64 : callB Tryd.prog 64 = true := by kernel_rfl
theorem call65 : callB Tryd.prog 65 = true := by kernel_rfl
theorem call66 : callB Tryd.prog 66 = true := by kernel_rfl
theorem call67 : callB Tryd.prog 67 = true := by kernel_rfl
theorem call68 : callB Tryd.prog 68 = true := by kernel_rfl
theorem call69 : callB Tryd.prog 69 = true := by kernel_rfl
theorem call70 : callB Tryd.prog 70 = true := by kernel_rfl
theorem call71 : callB Tryd.prog 71 = true := by kernel_rfl
theorem call72 : callB Tryd.prog 72 = true := by kernel_rfl
theorem call73 : callB Tryd.prog 73 = true := by kernel_rfl
theorem call74 : callB Tryd.prog 74 = true := by kernel_rfl
theorem call75 : callB Tryd.prog 75 = true := by kernel_rfl
theorem call76 : callB Tryd.prog 76 = true := by kernel_rfl
theorem call77 : callB Tryd.prog 77 = true := by kernel_rfl
theorem call78 : callB Tryd.prog 78 = true := by kernel_rfl
theorem call79 : callB Tryd.prog 79 = true := by kernel_rfl
theorem call80 : callB Tryd.prog 80 = true := by kernel_rfl
theorem call81 : callB Tryd.prog 81 = true := by kernel_rfl
theorem call82 : callB Tryd.prog 82 = true := by kernel_rfl
theorem call83 : callB Tryd.prog 83 = true := by kernel_rfl
theorem call84 : callB Tryd.prog 84 = true := by kernel_rfl
theorem call85 : callB Tryd.prog 85 = true := by kernel_rfl
theorem call86 : callB Tryd.prog 86 = true := by kernel_rfl
theorem call87 : callB Tryd.prog 87 = true := by kernel_rfl
theorem call88 : callB Tryd.prog 88 = true := by kernel_rfl
theorem call89 : callB Tryd.prog 89 = true := by kernel_rfl
theorem call90 : callB Tryd.prog 90 = true := by kernel_rfl
theorem call91 : callB Tryd.prog 91 = true := by kernel_rfl
theorem call92 : callB Tryd.prog 92 = true := by kernel_rfl
theorem call93 : callB Tryd.prog 93 = true := by kernel_rfl
theorem call94 : callB Tryd.prog 94 = true := by kernel_rfl
theorem call95 : callB Tryd.prog 95 = true := by kernel_rfl
theorem call96 : callB Tryd.prog 96 = true := by kernel_rfl
theorem call97 : callB Tryd.prog 97 = true := by kernel_rfl
theorem call98 : callB Tryd.prog 98 = true := by kernel_rfl
theorem call99 : callB Tryd.prog 99 = true := by kernel_rfl
theorem call100 : callB Tryd.prog 100 = true := by kernel_rfl
theorem call101 : callB Tryd.prog 101 = true := by kernel_rfl
theorem call102 : callB Tryd.prog 102 = true := by kernel_rfl
theorem call103 : callB Tryd.prog 103 = true := by kernel_rfl
theorem call104 : callB Tryd.prog 104 = true := by kernel_rfl
theorem call105 : callB Tryd.prog 105 = true := by kernel_rfl
theorem call106 : callB Tryd.prog 106 = true := by kernel_rfl
theorem call107 : callB Tryd.prog 107 = true := by kernel_rfl
theorem call108 : callB Tryd.prog 108 = true := by kernel_rfl
theorem call109 : callB Tryd.prog 109 = true := by kernel_rfl
theorem call110 : callB Tryd.prog 110 = true := by kernel_rfl
theorem call111 : callB Tryd.prog 111 = true := by kernel_rfl
theorem call112 : callB Tryd.prog 112 = true := by kernel_rfl
theorem call113 : callB Tryd.prog 113 = true := by kernel_rfl
theorem call114 : callB Tryd.prog 114 = true := by kernel_rfl
theorem call115 : callB Tryd.prog 115 = true := by kernel_rfl
theorem call116 : callB Tryd.prog 116 = true := by kernel_rfl
theorem call117 : callB Tryd.prog 117 = true := by kernel_rfl
theorem call118 : callB Tryd.prog 118 = true := by kernel_rfl
theorem call119 : callB Tryd.prog 119 = true := by kernel_rfl
theorem call120 : callB Tryd.prog 120 = true := by kernel_rfl
theorem call121 : callB Tryd.prog 121 = true := by kernel_rfl
theorem call122 : callB Tryd.prog 122 = true := by kernel_rfl
theorem call123 : callB Tryd.prog 123 = true := by kernel_rfl
theorem call124 : callB Tryd.prog 124 = true := by kernel_rfl
theorem call125 : callB Tryd.prog 125 = true := by kernel_rfl
theorem call126 : callB Tryd.prog 126 = true := by kernel_rfl
theorem call127 : callB Tryd.prog 127 = true := by kernel_rfl
theorem call128 : callB Tryd.prog 128 = true := by kernel_rfl
theorem call129 : callB Tryd.prog 129 = true := by kernel_rfl
theorem call130 : callB Tryd.prog 130 = true := by kernel_rfl
theorem call131 : callB Tryd.prog 131 = true := by kernel_rfl
theorem call132 : callB Tryd.prog 132 = true := by kernel_rfl
theorem call133 : callB Tryd.prog 133 = true := by kernel_rfl
theorem call134 : callB Tryd.prog 134 = true := by kernel_rfl
theorem call135 : callB Tryd.prog 135 = true := by kernel_rfl
theorem call136 : callB Tryd.prog 136 = true := by kernel_rfl
theorem call137 : callB Tryd.prog 137 = true := by kernel_rfl
theorem call138 : callB Tryd.prog 138 = true := by kernel_rfl
theorem call139 : callB Tryd.prog 139 = true := by kernel_rfl
theorem call140 : callB Tryd.prog 140 = true := by kernel_rfl
theorem call141 : callB Tryd.prog 141 = true := by kernel_rfl
theorem call142 : callB Tryd.prog 142 = true := by kernel_rfl
theorem call143 : callB Tryd.prog 143 = true := by kernel_rfl
theorem call144 : callB Tryd.prog 144 = true := by kernel_rfl
theorem call145 : callB Tryd.prog 145 = true := by kernel_rfl
theorem call146 : callB Tryd.prog 146 = true := by kernel_rfl
theorem call147 : callB Tryd.prog 147 = true := by kernel_rfl
theorem call148 : callB Tryd.prog 148 = true := by kernel_rfl
theorem call149 : callB Tryd.prog 149 = true := by kernel_rfl
theorem call150 : callB Tryd.prog 150 = true := by kernel_rfl
theorem call151 : callB Tryd.prog 151 = true := by kernel_rfl
theorem call152 : callB Tryd.prog 152 = true := by kernel_rfl
theorem call153 : callB Tryd.prog 153 = true := by kernel_rfl
theorem call154 : callB Tryd.prog 154 = true := by kernel_rfl
theorem call155 : callB Tryd.prog 155 = true := by kernel_rfl
theorem call156 : callB Tryd.prog 156 = true := by kernel_rfl
theorem call157 : callB Tryd.prog 157 = true := by kernel_rfl
theorem call158 : callB Tryd.prog 158 = true := by kernel_rfl
theorem call159 : callB Tryd.prog 159 = true := by kernel_rfl
theorem call160 : callB Tryd.prog 160 = true := by kernel_rfl
theorem call161 : callB Tryd.prog 161 = true := by kernel_rfl
theorem call162 : callB Tryd.prog 162 = true := by kernel_rfl
theorem call163 : callB Tryd.prog 163 = true := by kernel_rfl
theorem call164 : callB Tryd.prog 164 = true := by kernel_rfl
theorem call166 : callB Tryd.prog 166 = true := by kernel_rfl
theorem call167 : callB Tryd.prog 167 = true := by kernel_rfl
theorem call168 : callB Tryd.prog 168 = true := by kernel_rfl
theorem call169 : callB Tryd.prog 169 = true := by kernel_rfl
theorem call170 : callB Tryd.prog 170 = true := by kernel_rfl
theorem call171 : callB Tryd.prog 171 = true := by kernel_rfl
theorem call172 : callB Tryd.prog 172 = true := by kernel_rfl
theorem call173 : callB Tryd.prog 173 = true := by kernel_rfl
theorem call174 : callB Tryd.prog 174 = true := by kernel_rfl
theorem call175 : callB Tryd.prog 175 = true := by kernel_rfl
theorem call176 : callB Tryd.prog 176 = true := by kernel_rfl
theorem call177 : callB Tryd.prog 177 = true := by kernel_rfl
theorem call178 : callB Tryd.prog 178 = true := by kernel_rfl
theorem call179 : callB Tryd.prog 179 = true := by kernel_rfl
theorem call180 : callB Tryd.prog 180 = true := by kernel_rfl
theorem call181 : callB Tryd.prog 181 = true := by kernel_rfl
theorem call182 : callB Tryd.prog 182 = true := by kernel_rfl
theorem call183 : callB Tryd.prog 183 = true := by kernel_rfl
theorem call184 : callB Tryd.prog 184 = true := by kernel_rfl
theorem call185 : callB Tryd.prog 185 = true := by kernel_rfl
theorem call186 : callB Tryd.prog 186 = true := by kernel_rfl
theorem call187 : callB Tryd.prog 187 = true := by kernel_rfl
theorem call188 : callB Tryd.prog 188 = true := by kernel_rfl
theorem call189 : callB Tryd.prog 189 = true := by kernel_rfl
theorem call190 : callB Tryd.prog 190 = true := by kernel_rfl
theorem call191 : callB Tryd.prog 191 = true := by kernel_rfl
theorem call192 : callB Tryd.prog 192 = true := by kernel_rfl
theorem call193 : callB Tryd.prog 193 = true := by kernel_rfl
theorem call194 : callB Tryd.prog 194 = true := by kernel_rfl
theorem call195 : callB Tryd.prog 195 = true := by kernel_rfl
theorem call196 : callB Tryd.prog 196 = true := by kernel_rfl
theorem call197 : callB Tryd.prog 197 = true := by kernel_rfl
theorem call198 : callB Tryd.prog 198 = true := by kernel_rfl
theorem call199 : callB Tryd.prog 199 = true := by kernel_rfl
theorem call200 : callB Tryd.prog 200 = true := by kernel_rfl
theorem call201 : callB Tryd.prog 201 = true := by kernel_rfl
theorem call202 : callB Tryd.prog 202 = true := by kernel_rfl
theorem call204 : callB Tryd.prog 204 = true := by kernel_rfl
theorem call205 : callB Tryd.prog 205 = true := by kernel_rfl
theorem call206 : callB Tryd.prog 206 = true := by kernel_rfl
theorem call207 : callB Tryd.prog 207 = true := by kernel_rfl
theorem call208 : callB Tryd.prog 208 = true := by kernel_rfl
theorem call209 : callB Tryd.prog 209 = true := by kernel_rfl
theorem call210 : callB Tryd.prog 210 = true := by kernel_rfl
theorem call211 : callB Tryd.prog 211 = true := by kernel_rfl
theorem call212 : callB Tryd.prog 212 = true := by kernel_rfl
theorem call213 : callB Tryd.prog 213 = true := by kernel_rfl
theorem call214 : callB Tryd.prog 214 = true := by kernel_rfl
theorem call215 : callB Tryd.prog 215 = true := by kernel_rfl
theorem call216 : callB Tryd.prog 216 = true := by kernel_rfl
theorem call217 : callB Tryd.prog 217 = true := by kernel_rfl
theorem call218 : callB Tryd.prog 218 = true := by kernel_rfl
end Go.Proofs.YtkncbggnaobgeaaDoor
