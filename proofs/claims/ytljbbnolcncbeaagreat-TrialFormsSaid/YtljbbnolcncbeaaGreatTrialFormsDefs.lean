/-
  The functions that TrialForms reaches, as the frame's own machine has them.
-/
import Derived.Test.YtljbbnolcncbeaaGreatFoA45
namespace Fo.Tryz
open Go
abbrev p (d : Nat) (k : K) (xs : List AOpd) : AOp := ⟨d, true, k, xs, none, [], []⟩
abbrev zz : V := .int .i64 0
abbrev ff : V := .bool false
abbrev se : V := .sl []
abbrev et : V := .e true
def F9 : AFun where
  n := 46
  res := [.cell 4 (some 13), .tmp 5, .tmp 6, .tmp 7]
  code := (.seq (.reg [
 p 4 (.zero [zz, zz, et, et, ff, ff, ff, et, et, et, et, et, et]) [],
 p 5 .mv [.c et],
 p 6 .mv [.c et],
 p 7 .mv [.c ff]])
 (.seq (.reg [
 p 14 .mv [.s 0],
 p 15 (.call 22) [.s 14],
 p 13 .mv [.s 15],
 p 16 (.extract 0) [.s 13],
 p 17 (.extract 1) [.s 13],
  ⟨500, false, .store 13, [.s 4, .s 16], none, [], []⟩,
 p 7 .mv [.s 17]])
 (.seq (.seq (.reg [
 p 18 .mv [.s 7],
 p 19 (.un .not) [.s 18]])
 (.cond (.s 19) (.seq (.reg [
 p 20 (.build [zz, zz, et, et, ff, ff, ff, et, et, et, et, et, et] []) [],
  ⟨501, false, .store 13, [.s 4, .s 20], none, [], []⟩,
 p 5 .mv [.c et],
 p 6 .mv [.c et],
 p 7 .mv [.c ff]])
 .ret)
 .skip))
 (.seq (.seq (.reg [
 p 21 .mv [.s 1],
 p 22 .len [.s 21],
 p 23 .mv [.c zz]])
 (.block 0 (.loop (.seq (.reg [
 p 24 (.bin .lss) [.s 23, .s 22]])
 (.seq (.cond (.s 24) .skip
 (.exit 0))
 (.seq (.block 1 (.seq (.reg [
 p 25 (.iaddr 15) [.s 21, .s 23],
 p 26 (.load (some 15)) [.s 25],
 p 9 (.zero [zz, zz, zz, zz, zz, et, et, et, zz, zz, zz, zz, (.int .u32 0), zz, zz]) [],
  ⟨502, false, .store 15, [.s 9, .s 26], none, [], []⟩])
 (.seq (.reg [
 p 28 (.load (some 13)) [.s 4],
 p 29 (.load (some 15)) [.s 9],
 p 30 (.call 23) [.s 28, .s 29],
 p 27 .mv [.s 30],
 p 31 (.extract 0) [.s 27],
 p 32 (.extract 1) [.s 27],
 p 33 (.extract 2) [.s 27],
 p 10 (.zero [zz, zz, et, et, ff, ff, ff, et, et, et, et, et, et]) [],
 p 12 (.zero [zz, zz, zz, zz]) [],
  ⟨503, false, .store 13, [.s 10, .s 31], none, [], []⟩,
 p 11 .mv [.s 32],
  ⟨504, false, .store 4, [.s 12, .s 33], none, [], []⟩])
 (.drw [
  ⟨34, true, .load (some 13), [.s 10], none, [10], []⟩,
 p 35 .mv [.s 5],
 p 36 .mv [.s 11],
  ⟨37, true, .app 6 48 [zz, zz, zz, zz, zz, zz], [.s 35, .s 36], none, [30, 37], [30, 37]⟩,
 p 38 .mv [.s 6],
  ⟨39, true, .load (some 4), [.s 12], none, [12], []⟩,
 p 40 (.buildSl 4 [zz, zz, zz, zz] 1 [0]) [.s 39],
  ⟨41, true, .app 4 32 [zz, zz, zz, zz], [.s 38, .s 40], none, [40, 41], [40, 41]⟩,
  ⟨505, false, .store 13, [.s 4, .s 34], none, [4, 30], [4]⟩,
 p 5 .mv [.s 37],
 p 6 .mv [.s 41]]))))
 (.reg [
 p 42 (.bin .add) [.s 23, .c (.int .i64 1)],
 p 23 .mv [.s 42]])))))))
 (.seq (.reg [
 p 43 (.load (some 13)) [.s 4],
 p 44 .mv [.s 5],
 p 45 .mv [.s 6],
  ⟨506, false, .store 13, [.s 4, .s 43], none, [], []⟩,
 p 5 .mv [.s 44],
 p 6 .mv [.s 45],
 p 7 .mv [.c (.bool true)]])
 .ret)))))
def F17 : AFun where
  n := 5
  res := [.cell 2 (some 15)]
  code := (.seq (.reg [
 p 1 (.box 12) [.s 0],
 p 2 (.zero [zz, zz, zz, zz, zz, et, et, et, zz, zz, zz, zz, (.int .u32 0), zz, zz]) []])
 (.seq (.reg [
 p 3 (.load (some 12)) [.s 1],
 p 4 (.build [zz, zz, zz, zz, zz, et, et, et, zz, zz, zz, zz, (.int .u32 0), zz, zz] [(0, 1), (1, 12)]) [.c (.int .i64 1), .s 3],
  ⟨500, false, .store 15, [.s 2, .s 4], none, [], []⟩])
 .ret))
def F22 : AFun where
  n := 15
  res := [.cell 2 (some 13), .tmp 3]
  code := (.seq (.reg [
 p 2 (.zero [zz, zz, et, et, ff, ff, ff, et, et, et, et, et, et]) [],
 p 3 .mv [.c ff]])
 (.seq (.seq (.reg [
 p 4 .mv [.s 0],
 p 5 (.bin .lss) [.s 4, .c (.int .i64 1)],
 p 6 .mv [.s 5],
  ⟨7, true, .mv, [.s 0], (some (6, false)), [], []⟩,
  ⟨8, true, .bin .gtr, [.s 7, .c (.int .i64 4611686018427387904)], (some (6, false)), [], []⟩,
 p 9 .pick [.s 6, .c (.bool true), .s 8]])
 (.cond (.s 9) (.seq (.reg [
 p 10 (.build [zz, zz, et, et, ff, ff, ff, et, et, et, et, et, et] []) [],
  ⟨500, false, .store 13, [.s 2, .s 10], none, [], []⟩,
 p 3 .mv [.c ff]])
 .ret)
 .skip))
 (.seq (.reg [
 p 11 .mv [.s 0],
 p 12 (.call 42) [],
 p 13 (.call 43) [.c zz],
 p 14 (.build [zz, zz, et, et, ff, ff, ff, et, et, et, et, et, et] [(1, 1), (8, 3), (11, 2)]) [.s 11, .s 12, .s 13],
  ⟨501, false, .store 13, [.s 2, .s 14], none, [], []⟩,
 p 3 .mv [.c (.bool true)]])
 .ret)))
def F23 : AFun where
  n := 87
  res := [.cell 4 (some 13), .tmp 5, .cell 6 (some 4)]
  code := (.seq (.reg [
 p 2 (.box 13) [.s 0],
 p 3 (.box 15) [.s 1],
 p 4 (.zero [zz, zz, et, et, ff, ff, ff, et, et, et, et, et, et]) [],
 p 5 .mv [.c et],
 p 6 (.zero [zz, zz, zz, zz]) []])
 (.seq (.reg [
 p 7 (.zero [zz, zz, zz, zz]) []])
 (.seq (.reg [
 p 8 .mv [.c et]])
 (.seq (.seq (.reg [
 p 13 (.faddr 0) [.s 3],
 p 14 (.load none) [.s 13]])
 (.block 0 (.seq (.reg [
 p 17 (.bin .eql) [.s 14, .c (.int .i64 1)],
 p 16 .mv [.s 17]])
 (.cond (.s 16) (.seq (.reg [
 p 18 (.load (some 13)) [.s 2],
 p 19 (.faddr 1) [.s 3],
 p 20 (.load (some 12)) [.s 19],
 p 21 (.call 44) [.s 18, .s 20],
 p 22 (.extract 0) [.s 21],
 p 23 (.extract 1) [.s 21],
 p 24 (.extract 2) [.s 21],
  ⟨500, false, .store 13, [.s 4, .s 22], none, [], []⟩,
 p 5 .mv [.s 23],
  ⟨501, false, .store 4, [.s 6, .s 24], none, [], []⟩])
 .ret)
 (.seq (.reg [
 p 26 (.bin .eql) [.s 14, .c (.int .i64 2)],
 p 25 .mv [.s 26]])
 (.cond (.s 25) (.seq (.reg [
 p 28 (.load (some 13)) [.s 2],
 p 29 (.call 45) [.s 28],
 p 27 .mv [.s 29],
 p 30 (.extract 0) [.s 27],
 p 31 (.extract 1) [.s 27],
  ⟨502, false, .store 13, [.s 2, .s 30], none, [], []⟩,
 p 8 .mv [.s 31]])
 (.seq (.drw [
  ⟨32, true, .load (some 13), [.s 2], none, [2], []⟩,
 p 33 .mv [.s 8],
  ⟨34, true, .load (some 4), [.s 7], none, [7], []⟩,
  ⟨503, false, .store 13, [.s 4, .s 32], none, [4, 29, 45, 70, 80], [4]⟩,
 p 5 .mv [.s 33],
  ⟨504, false, .store 4, [.s 6, .s 34], none, [6], [6]⟩])
 .ret))
 (.seq (.reg [
 p 36 (.bin .eql) [.s 14, .c (.int .i64 3)],
 p 35 .mv [.s 36]])
 (.cond (.s 35) (.reg [
 p 37 (.faddr 6) [.s 2],
  ⟨505, false, .store 1, [.s 37, .c (.bool true)], none, [], []⟩])
 (.seq (.reg [
 p 39 (.bin .eql) [.s 14, .c (.int .i64 4)],
 p 38 .mv [.s 39]])
 (.cond (.s 38) (.seq (.reg [
 p 41 (.faddr 8) [.s 2],
 p 42 (.load (some 3)) [.s 41],
 p 43 (.faddr 13) [.s 3],
 p 44 (.load none) [.s 43],
 p 45 (.call 46) [.s 42, .s 44],
 p 40 .mv [.s 45],
 p 46 (.extract 0) [.s 40],
 p 47 (.extract 1) [.s 40],
 p 9 (.zero [et, et, et]) [],
  ⟨506, false, .store 3, [.s 9, .s 46], none, [], []⟩,
 p 10 .mv [.s 47]])
 (.seq (.seq (.reg [
 p 48 .mv [.s 10],
 p 49 (.un .not) [.s 48]])
 (.cond (.s 49) (.seq (.reg [
 p 50 (.faddr 0) [.s 7],
  ⟨507, false, .store 1, [.s 50, .c (.int .i64 3)], none, [], []⟩])
 (.exit 0))
 .skip))
 (.reg [
 p 51 (.load (some 3)) [.s 9],
 p 52 (.faddr 8) [.s 2],
  ⟨508, false, .store 3, [.s 52, .s 51], none, [], []⟩])))
 (.seq (.reg [
 p 54 (.bin .eql) [.s 14, .c (.int .i64 5)],
 p 53 .mv [.s 54]])
 (.cond (.s 53) (.seq (.seq (.reg [
 p 55 (.faddr 14) [.s 3],
 p 56 (.load none) [.s 55],
 p 57 (.bin .lss) [.s 56, .c zz],
 p 58 .mv [.s 57],
  ⟨59, true, .faddr 14, [.s 3], (some (58, false)), [], []⟩,
  ⟨60, true, .load none, [.s 59], (some (58, false)), [], []⟩,
  ⟨61, true, .bin .gtr, [.s 60, .c (.int .i64 10000)], (some (58, false)), [], []⟩,
 p 62 .pick [.s 58, .c (.bool true), .s 61]])
 (.cond (.s 62) (.seq (.reg [
 p 63 (.faddr 0) [.s 7],
  ⟨509, false, .store 1, [.s 63, .c (.int .i64 1)], none, [], []⟩])
 (.exit 0))
 .skip))
 (.seq (.reg [
 p 64 (.faddr 14) [.s 3],
 p 65 (.load none) [.s 64],
 p 66 .mv [.c zz]])
 (.block 1 (.loop (.seq (.reg [
 p 67 (.bin .lss) [.s 66, .s 65]])
 (.seq (.cond (.s 67) .skip
 (.exit 1))
 (.seq (.block 2 (.seq (.reg [
 p 69 (.load (some 13)) [.s 2],
 p 70 (.call 45) [.s 69],
 p 68 .mv [.s 70],
 p 71 (.extract 0) [.s 68],
 p 72 (.extract 1) [.s 68],
 p 11 (.zero [zz, zz, et, et, ff, ff, ff, et, et, et, et, et, et]) [],
  ⟨510, false, .store 13, [.s 11, .s 71], none, [], []⟩,
 p 12 .mv [.s 72]])
 (.drw [
  ⟨73, true, .load (some 13), [.s 11], none, [11], []⟩,
 p 74 .mv [.s 8],
 p 75 .mv [.s 12],
  ⟨76, true, .app 6 48 [zz, zz, zz, zz, zz, zz], [.s 74, .s 75], none, [29, 70, 76], [29, 70, 76]⟩,
  ⟨511, false, .store 13, [.s 2, .s 73], none, [2, 70], [2]⟩,
 p 8 .mv [.s 76]])))
 (.reg [
 p 77 (.bin .add) [.s 66, .c (.int .i64 1)],
 p 66 .mv [.s 77]]))))))))
 (.reg [
 p 15 (.faddr 0) [.s 7],
  ⟨512, false, .store 1, [.s 15, .c (.int .i64 1)], none, [], []⟩])))))))))))))
 (.seq (.reg [
 p 79 (.load (some 13)) [.s 2],
 p 80 (.call 47) [.s 79, .c (.int .i64 (-1)), .c zz],
 p 78 .mv [.s 80],
 p 81 (.extract 0) [.s 78],
 p 82 (.extract 1) [.s 78],
 p 83 (.extract 2) [.s 78],
  ⟨513, false, .store 13, [.s 2, .s 81], none, [], []⟩])
 (.seq (.drw [
  ⟨84, true, .load (some 13), [.s 2], none, [2], []⟩,
 p 85 .mv [.s 8],
  ⟨86, true, .load (some 4), [.s 7], none, [7], []⟩,
  ⟨514, false, .store 13, [.s 4, .s 84], none, [4, 29, 45, 70, 80], [4]⟩,
 p 5 .mv [.s 85],
  ⟨515, false, .store 4, [.s 6, .s 86], none, [6], [6]⟩])
 .ret))))))
def F42 : AFun where
  n := 4
  res := [.cell 0 (some 3)]
  code := (.seq (.reg [
 p 0 (.zero [et, et, et]) []])
 (.seq (.drw [
 p 1 (.call 70) [.c (.int .i64 12)],
 p 2 (.mkslice [zz, zz, zz, zz, zz, se, se, (.int .u32 0), se, (.int .u32 0)] 128) [.c (.int .i64 12), .c (.int .i64 12)],
  ⟨3, true, .build [et, et, et] [(0, 2), (2, 1)], [.s 1, .s 2], none, [1, 2], []⟩,
  ⟨500, false, .store 3, [.s 0, .s 3], none, [0, 1, 2], [0]⟩])
 .ret))
def F43 : AFun where
  n := 11
  res := [.cell 2 (some 2)]
  code := (.seq (.reg [
 p 2 (.zero [et, et]) []])
 (.seq (.reg [
 p 3 .mv [.s 0],
 p 4 .most [.s 3, .c zz],
 p 5 .least [.s 4, .c (.int .i64 65536)],
 p 0 .mv [.s 5]])
 (.seq (.drw [
 p 6 .mv [.s 0],
 p 7 (.mkslice [zz] 8) [.s 6, .s 6],
 p 8 .mv [.s 0],
 p 9 (.mkslice [ff] 1) [.s 8, .s 8],
  ⟨10, true, .build [et, et] [(0, 1), (1, 1)], [.s 7, .s 9], none, [7, 9], []⟩,
  ⟨500, false, .store 2, [.s 2, .s 10], none, [2, 7, 9], [2]⟩])
 .ret)))
def F44 : AFun where
  n := 65
  res := [.cell 4 (some 13), .tmp 5, .cell 6 (some 4)]
  code := (.seq (.reg [
 p 2 (.box 13) [.s 0],
 p 3 (.box 12) [.s 1],
 p 4 (.zero [zz, zz, et, et, ff, ff, ff, et, et, et, et, et, et]) [],
 p 5 .mv [.c et],
 p 6 (.zero [zz, zz, zz, zz]) []])
 (.seq (.reg [
 p 11 (.load (some 13)) [.s 2],
 p 12 (.load (some 12)) [.s 3],
 p 13 (.build [zz, zz, et, et, ff, ff, ff, et, et, et, et, et, et, zz, zz, zz, zz, et, et, et, zz, zz, zz, zz, (.int .u32 0), et, zz, zz, zz, zz] [(0, 13), (13, 12)]) [.s 11, .s 12],
 p 14 (.box 30) [.s 13],
 p 7 .mv [.s 14]])
 (.seq (.reg [
 p 15 .mkmap [],
 p 16 .mv [.s 7],
 p 17 (.mkfn 71 1) [.s 16],
  ⟨500, false, .mapset false [some .i64], [.s 15, .c (.int .i64 1), .s 17], none, [], []⟩,
 p 18 .mv [.s 7],
 p 19 (.mkfn 72 1) [.s 18],
  ⟨501, false, .mapset false [some .i64], [.s 15, .c (.int .i64 2), .s 19], none, [], []⟩,
 p 20 .mv [.s 7],
 p 21 (.mkfn 72 1) [.s 20],
  ⟨502, false, .mapset false [some .i64], [.s 15, .c (.int .i64 3), .s 21], none, [], []⟩,
 p 22 .mv [.s 7],
 p 23 (.mkfn 72 1) [.s 22],
  ⟨503, false, .mapset false [some .i64], [.s 15, .c (.int .i64 4), .s 23], none, [], []⟩,
 p 24 .mv [.s 7],
 p 25 (.mkfn 73 1) [.s 24],
  ⟨504, false, .mapset false [some .i64], [.s 15, .c (.int .i64 5), .s 25], none, [], []⟩,
 p 26 .mv [.s 7],
 p 27 (.mkfn 74 1) [.s 26],
  ⟨505, false, .mapset false [some .i64], [.s 15, .c (.int .i64 6), .s 27], none, [], []⟩,
 p 28 .mv [.s 7],
 p 29 (.mkfn 75 1) [.s 28],
  ⟨506, false, .mapset false [some .i64], [.s 15, .c (.int .i64 7), .s 29], none, [], []⟩,
 p 30 .mv [.s 7],
 p 31 (.mkfn 76 1) [.s 30],
  ⟨507, false, .mapset false [some .i64], [.s 15, .c (.int .i64 8), .s 31], none, [], []⟩,
 p 32 .mv [.s 7],
 p 33 (.mkfn 77 1) [.s 32],
  ⟨508, false, .mapset false [some .i64], [.s 15, .c (.int .i64 9), .s 33], none, [], []⟩,
 p 34 .mv [.s 7],
 p 35 (.mkfn 78 1) [.s 34],
  ⟨509, false, .mapset false [some .i64], [.s 15, .c (.int .i64 10), .s 35], none, [], []⟩,
 p 36 .mv [.s 7],
 p 37 (.mkfn 79 1) [.s 36],
  ⟨510, false, .mapset false [some .i64], [.s 15, .c (.int .i64 11), .s 37], none, [], []⟩,
 p 38 .mv [.s 15],
 p 8 .mv [.s 38]])
 (.seq (.reg [
 p 40 .mv [.s 8],
 p 41 (.faddr 0) [.s 3],
 p 42 (.load none) [.s 41],
 p 43 (.lookup false [some .i64] .any true) [.s 40, .s 42],
 p 39 .mv [.s 43],
 p 44 (.extract 0) [.s 39],
 p 45 (.extract 1) [.s 39],
 p 9 .mv [.s 44],
 p 10 .mv [.s 45]])
 (.seq (.seq (.reg [
 p 46 .mv [.s 10],
 p 47 (.un .not) [.s 46]])
 (.cond (.s 47) (.reg [
 p 48 .mv [.s 7],
 p 49 (.mkfn 80 1) [.s 48],
 p 9 .mv [.s 49]])
 .skip))
 (.seq (.reg [
 p 50 .mv [.s 9],
 p 51 .callv [.s 50]])
 (.seq (.drw [
 p 52 .mv [.s 7],
 p 53 .nilck [.s 52],
 p 54 (.faddr 0) [.s 53],
  ⟨55, true, .load (some 13), [.s 54], none, [14], []⟩,
  ⟨56, true, .call 81, [.s 55], none, [51], [51]⟩,
 p 57 .mv [.s 7],
 p 58 .nilck [.s 57],
 p 59 (.faddr 25) [.s 58],
  ⟨60, true, .load none, [.s 59], none, [14], []⟩,
 p 61 .mv [.s 7],
 p 62 .nilck [.s 61],
 p 63 (.faddr 26) [.s 62],
  ⟨64, true, .load (some 4), [.s 63], none, [14], []⟩,
  ⟨511, false, .store 13, [.s 4, .s 56], none, [4, 56], [4]⟩,
 p 5 .mv [.s 60],
  ⟨512, false, .store 4, [.s 6, .s 64], none, [6], [6]⟩])
 .ret)))))))
def F45 : AFun where
  n := 51
  res := [.cell 2 (some 13), .tmp 3]
  code := (.seq (.reg [
 p 1 (.box 13) [.s 0],
 p 2 (.zero [zz, zz, et, et, ff, ff, ff, et, et, et, et, et, et]) [],
 p 3 .mv [.c et]])
 (.seq (.reg [
 p 5 (.load (some 13)) [.s 1],
 p 6 (.call 82) [.s 5],
 p 7 (.build [zz, zz, et, et, ff, ff, ff, et, et, et, et, et, et, et] [(0, 13)]) [.s 6],
 p 8 (.box 14) [.s 7],
 p 4 .mv [.s 8]])
 (.seq (.seq (.reg [
 p 9 .mv [.s 4],
 p 10 .nilck [.s 9],
 p 11 (.faddr 0) [.s 10],
 p 12 (.faddr 4) [.s 11],
 p 13 (.load none) [.s 12],
 p 14 .mv [.s 13],
  ⟨15, true, .mv, [.s 4], (some (14, true)), [], []⟩,
  ⟨16, true, .nilck, [.s 15], (some (14, true)), [], []⟩,
  ⟨17, true, .faddr 0, [.s 16], (some (14, true)), [], []⟩,
  ⟨18, true, .faddr 5, [.s 17], (some (14, true)), [], []⟩,
  ⟨19, true, .load none, [.s 18], (some (14, true)), [], []⟩,
  ⟨20, true, .un .not, [.s 19], (some (14, true)), [], []⟩,
 p 21 .pick [.s 14, .s 20, .c ff]])
 (.cond (.s 21) (.seq (.reg [
 p 22 .mv [.s 4],
 p 23 (.call 83) [.s 22]])
 (.seq (.reg [
 p 24 .mv [.s 4],
 p 25 (.call 84) [.s 24]])
 (.seq (.reg [
 p 26 .mv [.s 4],
 p 27 (.call 85) [.s 26]])
 (.reg [
 p 28 .mv [.s 4],
 p 29 (.call 86) [.s 28]]))))
 .skip))
 (.seq (.reg [
 p 30 .mv [.s 4],
 p 31 .nilck [.s 30],
 p 32 (.faddr 0) [.s 31],
 p 33 (.faddr 6) [.s 32],
  ⟨500, false, .store 1, [.s 33, .c ff], none, [], []⟩])
 (.seq (.reg [
 p 34 .mv [.s 4],
 p 35 .nilck [.s 34],
 p 36 (.faddr 0) [.s 35],
 p 37 (.faddr 0) [.s 36],
 p 38 (.load none) [.s 37],
 p 39 (.bin .add) [.s 38, .c (.int .i64 1)],
 p 40 .nilck [.s 34],
 p 41 (.faddr 0) [.s 40],
 p 42 (.faddr 0) [.s 41],
  ⟨501, false, .store 1, [.s 42, .s 39], none, [], []⟩])
 (.seq (.drw [
 p 43 .mv [.s 4],
 p 44 .nilck [.s 43],
 p 45 (.faddr 0) [.s 44],
  ⟨46, true, .load (some 13), [.s 45], none, [8], []⟩,
 p 47 .mv [.s 4],
 p 48 .nilck [.s 47],
 p 49 (.faddr 13) [.s 48],
  ⟨50, true, .load none, [.s 49], none, [8], []⟩,
  ⟨502, false, .store 13, [.s 2, .s 46], none, [2, 6, 23, 25, 27, 29], [2]⟩,
 p 3 .mv [.s 50]])
 .ret))))))
def F46 : AFun where
  n := 27
  res := [.cell 4 (some 3), .tmp 5]
  code := (.seq (.reg [
 p 2 (.box 3) [.s 0],
 p 4 (.zero [et, et, et]) [],
 p 5 .mv [.c ff]])
 (.seq (.reg [
 p 7 (.load (some 3)) [.s 2],
 p 8 (.call 87) [.s 7],
 p 6 (.zero [et, et, et]) [],
  ⟨500, false, .store 3, [.s 6, .s 8], none, [], []⟩])
 (.seq (.seq (.reg [
 p 9 (.load (some 3)) [.s 2],
 p 10 .mv [.s 1],
 p 11 (.call 88) [.s 9, .s 10],
 p 12 (.un .not) [.s 11]])
 (.cond (.s 12) (.seq (.reg [
 p 13 (.load (some 3)) [.s 6],
  ⟨501, false, .store 3, [.s 4, .s 13], none, [], []⟩,
 p 5 .mv [.c ff]])
 .ret)
 .skip))
 (.seq (.drw [
 p 14 (.faddr 2) [.s 6],
  ⟨15, true, .load none, [.s 14], none, [6], []⟩,
 p 16 .mv [.s 1],
 p 17 (.faddr 2) [.s 6],
  ⟨18, true, .load none, [.s 17], none, [6], []⟩,
 p 19 .mv [.s 1],
  ⟨20, true, .iaddr 10, [.s 18, .s 19], none, [8], []⟩,
 p 21 (.faddr 9) [.s 20],
  ⟨22, true, .load none, [.s 21], none, [8], []⟩,
 p 23 (.un .xor) [.s 22],
  ⟨24, true, .iaddr 10, [.s 15, .s 16], none, [8], []⟩,
 p 25 (.faddr 9) [.s 24],
  ⟨502, false, .store 1, [.s 25, .s 23], none, [8], [8]⟩])
 (.seq (.reg [
 p 26 (.load (some 3)) [.s 6],
  ⟨503, false, .store 3, [.s 4, .s 26], none, [], []⟩,
 p 5 .mv [.c (.bool true)]])
 .ret)))))
def F47 : AFun where
  n := 98
  res := [.cell 6 (some 13), .tmp 7, .tmp 8]
  code := (.seq (.reg [
 p 3 (.box 13) [.s 0],
 p 6 (.zero [zz, zz, et, et, ff, ff, ff, et, et, et, et, et, et]) [],
 p 7 .mv [.c et],
 p 8 .mv [.c zz]])
 (.seq (.reg [
 p 12 (.load (some 13)) [.s 3],
 p 13 (.call 82) [.s 12],
  ⟨500, false, .store 13, [.s 3, .s 13], none, [], []⟩])
 (.seq (.block 0 (.seq (.reg [
 p 15 (.faddr 4) [.s 3],
 p 16 (.load none) [.s 15],
 p 17 (.un .not) [.s 16],
 p 14 .mv [.s 17]])
 (.cond (.s 14) (.seq (.reg [
 p 18 (.load (some 13)) [.s 3],
  ⟨501, false, .store 13, [.s 6, .s 18], none, [], []⟩,
 p 7 .mv [.c et],
 p 8 .mv [.c (.int .i64 8)]])
 .ret)
 (.seq (.reg [
 p 20 (.faddr 5) [.s 3],
 p 21 (.load none) [.s 20],
 p 19 .mv [.s 21]])
 (.cond (.s 19) (.seq (.reg [
 p 22 (.load (some 13)) [.s 3],
  ⟨502, false, .store 13, [.s 6, .s 22], none, [], []⟩,
 p 7 .mv [.c et],
 p 8 .mv [.c (.int .i64 17)]])
 .ret)
 (.seq (.reg [
 p 24 .mv [.s 1],
 p 25 (.bin .lss) [.s 24, .c zz],
 p 26 .mv [.s 25],
  ⟨27, true, .mv, [.s 1], (some (26, false)), [], []⟩,
  ⟨28, true, .faddr 2, [.s 3], (some (26, false)), [], []⟩,
  ⟨29, true, .load none, [.s 28], (some (26, false)), [], []⟩,
  ⟨30, true, .len, [.s 29], (some (26, false)), [], []⟩,
  ⟨31, true, .bin .geq, [.s 27, .s 30], (some (26, false)), [], []⟩,
 p 32 .pick [.s 26, .c (.bool true), .s 31],
 p 23 .mv [.s 32]])
 (.cond (.s 23) (.seq (.reg [
 p 33 (.load (some 13)) [.s 3],
  ⟨503, false, .store 13, [.s 6, .s 33], none, [], []⟩,
 p 7 .mv [.c et],
 p 8 .mv [.c (.int .i64 3)]])
 .ret)
 (.seq (.reg [
 p 35 .mv [.s 1],
 p 36 (.faddr 11) [.s 3],
 p 37 (.faddr 1) [.s 36],
 p 38 (.load none) [.s 37],
 p 39 .len [.s 38],
 p 40 (.bin .lss) [.s 35, .s 39],
 p 41 .mv [.s 40],
  ⟨42, true, .faddr 11, [.s 3], (some (41, true)), [], []⟩,
  ⟨43, true, .faddr 1, [.s 42], (some (41, true)), [], []⟩,
  ⟨44, true, .load none, [.s 43], (some (41, true)), [], []⟩,
  ⟨45, true, .mv, [.s 1], (some (41, true)), [], []⟩,
  ⟨46, true, .iaddr 1, [.s 44, .s 45], (some (41, true)), [], []⟩,
  ⟨47, true, .load none, [.s 46], (some (41, true)), [], []⟩,
 p 48 .pick [.s 41, .s 47, .c ff],
 p 34 .mv [.s 48]])
 (.cond (.s 34) (.seq (.reg [
 p 49 (.load (some 13)) [.s 3],
  ⟨504, false, .store 13, [.s 6, .s 49], none, [], []⟩,
 p 7 .mv [.c et],
 p 8 .mv [.c (.int .i64 6)]])
 .ret)
 .skip)))))))))
 (.seq (.reg [
 p 9 .mv [.c et]])
 (.seq (.reg [
 p 51 .mv [.s 1],
 p 52 (.call 89) [.s 3, .s 51],
 p 50 .mv [.s 52],
 p 53 (.extract 0) [.s 50],
 p 54 (.extract 1) [.s 50],
 p 10 .mv [.s 53],
 p 11 .mv [.s 54]])
 (.seq (.seq (.reg [
 p 55 .mv [.s 11]])
 (.cond (.s 55) (.seq (.seq (.reg [
 p 56 (.faddr 7) [.s 3],
 p 57 (.load none) [.s 56],
 p 58 .mv [.s 10],
 p 59 (.iaddr 28) [.s 57, .s 58],
 p 60 (.faddr 3) [.s 59],
 p 61 (.load none) [.s 60],
 p 62 (.bin .neq) [.s 61, .c (.int .i64 2)]])
 (.cond (.s 62) (.seq (.reg [
 p 63 (.load (some 13)) [.s 3],
  ⟨505, false, .store 13, [.s 6, .s 63], none, [], []⟩,
 p 7 .mv [.c et],
 p 8 .mv [.c (.int .i64 5)]])
 .ret)
 .skip))
 (.seq (.reg [
 p 64 .mv [.s 9],
 p 65 (.faddr 0) [.s 3],
 p 66 (.load none) [.s 65],
 p 67 .mv [.s 1],
 p 68 (.build [zz, zz, zz, zz, zz, zz] [(0, 1), (1, 1), (2, 1)]) [.s 66, .c (.int .i64 13), .s 67],
 p 69 (.buildSl 6 [zz, zz, zz, zz, zz, zz] 1 [0]) [.s 68],
 p 70 (.app 6 48 [zz, zz, zz, zz, zz, zz]) [.s 64, .s 69],
 p 9 .mv [.s 70]])
 (.reg [
 p 71 (.faddr 7) [.s 3],
 p 72 (.load none) [.s 71],
 p 73 .mv [.s 10],
 p 74 .mv [.s 10],
 p 75 (.bin .add) [.s 74, .c (.int .i64 1)],
 p 76 (.call 90) [.s 72, .s 73, .s 75],
 p 77 (.faddr 7) [.s 3],
  ⟨506, false, .store 1, [.s 77, .s 76], none, [], []⟩])))
 .skip))
 (.seq (.drw [
 p 78 (.faddr 7) [.s 3],
  ⟨79, true, .load none, [.s 78], none, [3], []⟩,
 p 80 .mv [.s 10],
 p 81 .mv [.s 1],
 p 82 (.faddr 0) [.s 3],
  ⟨83, true, .load none, [.s 82], none, [3], []⟩,
 p 84 .mv [.s 2],
 p 85 (.call 92) [.s 81, .s 83, .s 84],
  ⟨86, true, .buildSlL 28 [zz, zz, zz, zz, zz, zz, zz, zz, zz, zz, zz, zz, zz, se, ff, zz, zz, zz, zz, zz, zz, zz, zz, zz, se, ff, se, ff] 1 [0], [.s 85], none, [85], [85]⟩,
  ⟨87, true, .call 91, [.s 79, .s 80, .s 86], none, [13, 52, 76, 87, 86], [13, 52, 76, 87, 86]⟩,
 p 88 (.faddr 7) [.s 3],
  ⟨507, false, .store 1, [.s 88, .s 87], none, [3, 87], [3]⟩])
 (.seq (.drw [
  ⟨89, true, .load (some 13), [.s 3], none, [3], []⟩,
 p 90 .mv [.s 9],
 p 91 (.faddr 0) [.s 3],
  ⟨92, true, .load none, [.s 91], none, [3], []⟩,
 p 93 .mv [.s 1],
 p 94 .mv [.s 2],
 p 95 (.build [zz, zz, zz, zz, zz, zz] [(0, 1), (1, 1), (2, 1), (4, 1)]) [.s 92, .c (.int .i64 1), .s 93, .s 94],
 p 96 (.buildSl 6 [zz, zz, zz, zz, zz, zz] 1 [0]) [.s 95],
  ⟨97, true, .app 6 48 [zz, zz, zz, zz, zz, zz], [.s 90, .s 96], none, [69, 70, 96], [69, 70]⟩,
  ⟨508, false, .store 13, [.s 6, .s 89], none, [6, 13, 52, 76, 87], [6]⟩,
 p 7 .mv [.s 97],
 p 8 .mv [.c zz]])
 .ret))))))))
def F70 : AFun where
  n := 11
  res := [.cell 2 (some 2)]
  code := (.seq (.reg [
 p 2 (.zero [et, et]) []])
 (.seq (.reg [
 p 3 .mv [.s 0],
 p 4 .most [.s 3, .c zz],
 p 5 .least [.s 4, .c (.int .i64 64)],
 p 0 .mv [.s 5]])
 (.seq (.drw [
 p 6 .mv [.s 0],
 p 7 (.mkslice [zz] 8) [.s 6, .s 6],
 p 8 .mv [.s 0],
 p 9 (.mkslice [ff] 1) [.s 8, .s 8],
  ⟨10, true, .build [et, et] [(0, 1), (1, 1)], [.s 7, .s 9], none, [7, 9], []⟩,
  ⟨500, false, .store 2, [.s 2, .s 10], none, [2, 7, 9], [2]⟩])
 .ret)))
def F71 : AFun where
  n := 51
  res := []
  code := (.seq (.seq (.reg [
 p 5 .mv [.s 0],
 p 6 .nilck [.s 5],
 p 7 (.faddr 0) [.s 6],
 p 8 (.faddr 4) [.s 7],
 p 9 (.load none) [.s 8]])
 (.cond (.s 9) (.seq (.reg [
 p 10 .mv [.s 0],
 p 11 .nilck [.s 10],
 p 12 (.faddr 26) [.s 11],
 p 13 (.faddr 0) [.s 12],
  ⟨500, false, .store 1, [.s 13, .c (.int .i64 7)], none, [], []⟩])
 .ret)
 .skip))
 (.seq (.drw [
 p 15 .mv [.s 0],
 p 16 .nilck [.s 15],
 p 17 (.faddr 0) [.s 16],
 p 18 (.faddr 2) [.s 17],
  ⟨19, true, .load none, [.s 18], none, [0], []⟩,
 p 20 .mv [.s 0],
 p 21 .nilck [.s 20],
 p 22 (.faddr 13) [.s 21],
 p 23 (.faddr 1) [.s 22],
  ⟨24, true, .load (some 6), [.s 23], none, [0], []⟩,
 p 25 .mv [.s 0],
 p 26 .nilck [.s 25],
 p 27 (.faddr 0) [.s 26],
 p 28 (.faddr 1) [.s 27],
  ⟨29, true, .load none, [.s 28], none, [0], []⟩,
  ⟨30, true, .call 121, [.s 19, .s 24, .s 29], none, [0, 30], [0, 30]⟩,
 p 14 .mv [.s 30],
 p 31 (.extract 0) [.s 14],
 p 32 (.extract 1) [.s 14],
 p 33 (.extract 2) [.s 14],
 p 2 .mv [.s 31],
 p 3 .mv [.s 32],
 p 4 .mv [.s 33]])
 (.seq (.reg [
 p 34 .mv [.s 0],
 p 35 .mv [.s 4],
 p 36 .nilck [.s 34],
 p 37 (.faddr 26) [.s 36],
 p 38 (.faddr 0) [.s 37],
  ⟨501, false, .store 1, [.s 38, .s 35], none, [], []⟩])
 (.seq (.reg [
 p 39 .mv [.s 4],
 p 40 (.bin .eql) [.s 39, .c zz]])
 (.cond (.s 40) (.reg [
 p 41 .mv [.s 0],
 p 42 .mv [.s 0],
 p 43 .mv [.s 2],
 p 44 .mv [.s 3],
 p 45 .nilck [.s 41],
 p 46 (.faddr 0) [.s 45],
 p 47 (.faddr 2) [.s 46],
  ⟨502, false, .store 1, [.s 47, .s 43], none, [], []⟩,
 p 48 .nilck [.s 42],
 p 49 (.faddr 0) [.s 48],
 p 50 (.faddr 3) [.s 49],
  ⟨503, false, .store 1, [.s 50, .s 44], none, [], []⟩])
 .skip)))))
def F72 : AFun where
  n := 58
  res := []
  code := (.seq (.reg [
 p 6 .mkmap [],
  ⟨500, false, .mapset false [some .i64], [.s 6, .c (.int .i64 2), .c (.int .i64 1)], none, [], []⟩,
  ⟨501, false, .mapset false [some .i64], [.s 6, .c (.int .i64 3), .c (.int .i64 2)], none, [], []⟩,
  ⟨502, false, .mapset false [some .i64], [.s 6, .c (.int .i64 4), .c (.int .i64 3)], none, [], []⟩,
 p 7 .mv [.s 6],
 p 2 .mv [.s 7]])
 (.seq (.seq (.reg [
 p 8 .mv [.s 0],
 p 9 .nilck [.s 8],
 p 10 (.faddr 13) [.s 9],
 p 11 (.faddr 0) [.s 10],
 p 12 (.load none) [.s 11],
 p 13 (.bin .eql) [.s 12, .c (.int .i64 2)],
 p 14 .mv [.s 13],
  ⟨15, true, .mv, [.s 0], (some (14, true)), [], []⟩,
  ⟨16, true, .nilck, [.s 15], (some (14, true)), [], []⟩,
  ⟨17, true, .faddr 0, [.s 16], (some (14, true)), [], []⟩,
  ⟨18, true, .faddr 4, [.s 17], (some (14, true)), [], []⟩,
  ⟨19, true, .load none, [.s 18], (some (14, true)), [], []⟩,
 p 20 .pick [.s 14, .s 19, .c ff]])
 (.cond (.s 20) (.seq (.reg [
 p 21 .mv [.s 0],
 p 22 .nilck [.s 21],
 p 23 (.faddr 26) [.s 22],
 p 24 (.faddr 0) [.s 23],
  ⟨503, false, .store 1, [.s 24, .c (.int .i64 7)], none, [], []⟩])
 .ret)
 .skip))
 (.seq (.drw [
 p 26 .mv [.s 0],
 p 27 .nilck [.s 26],
 p 28 (.faddr 0) [.s 27],
 p 29 (.faddr 8) [.s 28],
  ⟨30, true, .load (some 3), [.s 29], none, [0], []⟩,
 p 31 .mv [.s 2],
 p 32 .mv [.s 0],
 p 33 .nilck [.s 32],
 p 34 (.faddr 13) [.s 33],
 p 35 (.faddr 0) [.s 34],
  ⟨36, true, .load none, [.s 35], none, [0], []⟩,
  ⟨37, true, .lookup false [some .i64] zz false, [.s 31, .s 36], none, [6], []⟩,
  ⟨38, true, .call 122, [.s 30, .s 37], none, [0, 38], [0, 38]⟩,
 p 25 .mv [.s 38],
 p 39 (.extract 0) [.s 25],
 p 40 (.extract 1) [.s 25],
 p 41 (.extract 2) [.s 25],
 p 3 (.zero [et, et, et]) [],
 p 4 (.zero [zz, zz]) [],
  ⟨504, false, .store 3, [.s 3, .s 39], none, [3, 38], [3]⟩,
  ⟨505, false, .store 2, [.s 4, .s 40], none, [4], [4]⟩,
 p 5 .mv [.s 41]])
 (.seq (.seq (.reg [
 p 42 .mv [.s 5],
 p 43 (.un .not) [.s 42]])
 (.cond (.s 43) (.seq (.reg [
 p 44 .mv [.s 0],
 p 45 .nilck [.s 44],
 p 46 (.faddr 26) [.s 45],
 p 47 (.faddr 0) [.s 46],
  ⟨506, false, .store 1, [.s 47, .c (.int .i64 4)], none, [], []⟩])
 .ret)
 .skip))
 (.drw [
 p 48 .mv [.s 0],
 p 49 .mv [.s 0],
  ⟨50, true, .load (some 3), [.s 3], none, [3], []⟩,
  ⟨51, true, .load (some 2), [.s 4], none, [4], []⟩,
 p 52 .nilck [.s 48],
 p 53 (.faddr 0) [.s 52],
 p 54 (.faddr 8) [.s 53],
  ⟨507, false, .store 3, [.s 54, .s 50], none, [0, 38], [0]⟩,
 p 55 .nilck [.s 49],
 p 56 (.faddr 26) [.s 55],
 p 57 (.faddr 1) [.s 56],
  ⟨508, false, .store 2, [.s 57, .s 51], none, [0], [0]⟩])))))
def F73 : AFun where
  n := 31
  res := []
  code := (.seq (.reg [
 p 5 .mv [.s 0],
 p 6 .nilck [.s 5],
 p 7 (.faddr 0) [.s 6],
 p 8 (.load (some 13)) [.s 7],
 p 9 (.call 123) [.s 8],
 p 4 .mv [.s 9],
 p 10 (.extract 0) [.s 4],
 p 11 (.extract 1) [.s 4],
 p 2 (.zero [zz, zz, et, et, ff, ff, ff, et, et, et, et, et, et]) [],
  ⟨500, false, .store 13, [.s 2, .s 10], none, [], []⟩,
 p 3 .mv [.s 11]])
 (.seq (.reg [
 p 12 .mv [.s 0],
 p 13 .mv [.s 3],
 p 14 .nilck [.s 12],
 p 15 (.faddr 26) [.s 14],
 p 16 (.faddr 0) [.s 15],
  ⟨501, false, .store 1, [.s 16, .s 13], none, [], []⟩])
 (.seq (.reg [
 p 17 .mv [.s 3],
 p 18 (.bin .eql) [.s 17, .c zz]])
 (.cond (.s 18) (.seq (.reg [
 p 19 .mv [.s 0],
 p 20 (.load (some 13)) [.s 2],
 p 21 .nilck [.s 19],
 p 22 (.faddr 0) [.s 21],
  ⟨502, false, .store 13, [.s 22, .s 20], none, [], []⟩])
 (.reg [
 p 23 .mv [.s 0],
 p 24 (.faddr 2) [.s 2],
 p 25 (.load none) [.s 24],
 p 26 .len [.s 25],
 p 27 (.call 43) [.s 26],
 p 28 .nilck [.s 23],
 p 29 (.faddr 0) [.s 28],
 p 30 (.faddr 11) [.s 29],
  ⟨503, false, .store 2, [.s 30, .s 27], none, [], []⟩]))
 .skip))))
def F74 : AFun where
  n := 31
  res := []
  code := (.drw [
 p 3 .mv [.s 0],
 p 4 .mv [.s 0],
 p 5 .mv [.s 0],
 p 6 .mv [.s 0],
 p 7 .nilck [.s 6],
 p 8 (.faddr 0) [.s 7],
  ⟨9, true, .load (some 13), [.s 8], none, [0], []⟩,
 p 10 .mv [.s 0],
 p 11 .nilck [.s 10],
 p 12 (.faddr 13) [.s 11],
 p 13 (.faddr 9) [.s 12],
  ⟨14, true, .load none, [.s 13], none, [0], []⟩,
 p 15 .mv [.s 0],
 p 16 .nilck [.s 15],
 p 17 (.faddr 13) [.s 16],
 p 18 (.faddr 10) [.s 17],
  ⟨19, true, .load none, [.s 18], none, [0], []⟩,
  ⟨20, true, .call 47, [.s 9, .s 14, .s 19], none, [0, 20], [0, 20]⟩,
 p 2 .mv [.s 20],
 p 21 (.extract 0) [.s 2],
 p 22 (.extract 1) [.s 2],
 p 23 (.extract 2) [.s 2],
 p 24 .nilck [.s 3],
 p 25 (.faddr 0) [.s 24],
  ⟨500, false, .store 13, [.s 25, .s 21], none, [0, 20], [0]⟩,
 p 26 .nilck [.s 4],
 p 27 (.faddr 25) [.s 26],
  ⟨501, false, .store 1, [.s 27, .s 22], none, [0, 20], [0]⟩,
 p 28 .nilck [.s 5],
 p 29 (.faddr 26) [.s 28],
 p 30 (.faddr 0) [.s 29],
  ⟨502, false, .store 1, [.s 30, .s 23], none, [0], [0]⟩])
def F75 : AFun where
  n := 57
  res := []
  code := (.seq (.reg [
 p 8 .mv [.s 0],
 p 9 (.call 124) [.s 8, .c (.int .i64 2)],
 p 7 .mv [.s 9],
 p 10 (.extract 0) [.s 7],
 p 11 (.extract 1) [.s 7],
 p 12 (.extract 2) [.s 7],
 p 3 (.zero [zz, zz, zz, zz, zz, et, et, (.int .u32 0), et, (.int .u32 0)]) [],
 p 2 .mv [.s 10],
  ⟨500, false, .store 10, [.s 3, .s 11], none, [], []⟩,
 p 4 .mv [.s 12]])
 (.seq (.seq (.reg [
 p 13 .mv [.s 4],
 p 14 (.un .not) [.s 13]])
 (.cond (.s 14) .ret
 .skip))
 (.seq (.drw [
 p 16 (.faddr 5) [.s 3],
  ⟨17, true, .load (some 2), [.s 16], none, [3], []⟩,
 p 18 .mv [.s 0],
 p 19 .nilck [.s 18],
 p 20 (.faddr 13) [.s 19],
 p 21 (.faddr 10) [.s 20],
  ⟨22, true, .load none, [.s 21], none, [0], []⟩,
  ⟨23, true, .call 125, [.s 17, .s 22], none, [9, 23], [9, 23]⟩,
 p 15 .mv [.s 23],
 p 24 (.extract 0) [.s 15],
 p 25 (.extract 1) [.s 15],
 p 26 (.extract 2) [.s 15],
 p 5 (.zero [et, et]) [],
  ⟨501, false, .store 2, [.s 5, .s 24], none, [5, 23], [5]⟩,
 p 6 .mv [.s 25],
 p 4 .mv [.s 26]])
 (.seq (.seq (.reg [
 p 27 .mv [.s 4],
 p 28 (.un .not) [.s 27]])
 (.cond (.s 28) (.seq (.reg [
 p 29 .mv [.s 0],
 p 30 .nilck [.s 29],
 p 31 (.faddr 26) [.s 30],
 p 32 (.faddr 0) [.s 31],
  ⟨502, false, .store 1, [.s 32, .c (.int .i64 4)], none, [], []⟩])
 .ret)
 .skip))
 (.seq (.seq (.reg [
 p 33 .mv [.s 6],
 p 34 (.bin .gtr) [.s 33, .c zz]])
 (.cond (.s 34) (.reg [
 p 35 .mv [.s 0],
 p 36 .mv [.s 6],
 p 37 .mv [.s 0],
 p 38 .nilck [.s 37],
 p 39 (.faddr 13) [.s 38],
 p 40 (.faddr 10) [.s 39],
 p 41 (.load none) [.s 40],
 p 42 (.call 126) [.s 35, .s 36, .s 41, .c zz]])
 .skip))
 (.seq (.reg [
 p 43 (.load (some 2)) [.s 5],
 p 44 (.faddr 5) [.s 3],
  ⟨503, false, .store 2, [.s 44, .s 43], none, [], []⟩])
 (.drw [
 p 45 .mv [.s 0],
 p 46 .mv [.s 0],
 p 47 .nilck [.s 46],
 p 48 (.faddr 0) [.s 47],
 p 49 (.faddr 8) [.s 48],
  ⟨50, true, .load (some 3), [.s 49], none, [0], []⟩,
 p 51 .mv [.s 2],
  ⟨52, true, .load (some 10), [.s 3], none, [3], []⟩,
  ⟨53, true, .call 127, [.s 50, .s 51, .s 52], none, [0, 9, 42, 53, 23], [0, 9, 42, 53, 23]⟩,
 p 54 .nilck [.s 45],
 p 55 (.faddr 0) [.s 54],
 p 56 (.faddr 8) [.s 55],
  ⟨504, false, .store 3, [.s 56, .s 53], none, [0, 53], [0]⟩])))))))
def F76 : AFun where
  n := 61
  res := []
  code := (.seq (.reg [
 p 9 .mv [.s 0],
 p 10 (.call 124) [.s 9, .c (.int .i64 2)],
 p 8 .mv [.s 10],
 p 11 (.extract 0) [.s 8],
 p 12 (.extract 1) [.s 8],
 p 13 (.extract 2) [.s 8],
 p 3 (.zero [zz, zz, zz, zz, zz, et, et, (.int .u32 0), et, (.int .u32 0)]) [],
 p 2 .mv [.s 11],
  ⟨500, false, .store 10, [.s 3, .s 12], none, [], []⟩,
 p 4 .mv [.s 13]])
 (.seq (.seq (.reg [
 p 14 .mv [.s 4],
 p 15 (.un .not) [.s 14]])
 (.cond (.s 15) .ret
 .skip))
 (.seq (.drw [
 p 17 (.faddr 5) [.s 3],
  ⟨18, true, .load (some 2), [.s 17], none, [3], []⟩,
 p 19 .mv [.s 0],
 p 20 .nilck [.s 19],
 p 21 (.faddr 13) [.s 20],
 p 22 (.faddr 9) [.s 21],
  ⟨23, true, .load none, [.s 22], none, [0], []⟩,
  ⟨24, true, .call 128, [.s 18, .s 23], none, [10, 24], [10, 24]⟩,
 p 16 .mv [.s 24],
 p 25 (.extract 0) [.s 16],
 p 26 (.extract 1) [.s 16],
 p 27 (.extract 2) [.s 16],
 p 28 (.extract 3) [.s 16],
 p 5 (.zero [et, et]) [],
  ⟨501, false, .store 2, [.s 5, .s 25], none, [5, 24], [5]⟩,
 p 6 .mv [.s 26],
 p 7 .mv [.s 27],
 p 4 .mv [.s 28]])
 (.seq (.block 0 (.seq (.reg [
 p 34 .mv [.s 4],
 p 35 (.un .not) [.s 34],
 p 33 .mv [.s 35]])
 (.cond (.s 33) (.seq (.reg [
 p 36 .mv [.s 0],
 p 37 .nilck [.s 36],
 p 38 (.faddr 26) [.s 37],
 p 39 (.faddr 0) [.s 38],
  ⟨502, false, .store 1, [.s 39, .c (.int .i64 1)], none, [], []⟩])
 .ret)
 (.seq (.reg [
 p 41 .mv [.s 7],
 p 40 .mv [.s 41]])
 (.cond (.s 40) (.reg [
 p 42 .mv [.s 0],
 p 43 .mv [.s 6],
 p 44 .nilck [.s 42],
 p 45 (.faddr 26) [.s 44],
 p 46 (.faddr 3) [.s 45],
  ⟨503, false, .store 1, [.s 46, .s 43], none, [], []⟩])
 (.reg [
 p 29 .mv [.s 0],
 p 30 .nilck [.s 29],
 p 31 (.faddr 26) [.s 30],
 p 32 (.faddr 0) [.s 31],
  ⟨504, false, .store 1, [.s 32, .c (.int .i64 16)], none, [], []⟩]))))))
 (.seq (.reg [
 p 47 (.load (some 2)) [.s 5],
 p 48 (.faddr 5) [.s 3],
  ⟨505, false, .store 2, [.s 48, .s 47], none, [], []⟩])
 (.drw [
 p 49 .mv [.s 0],
 p 50 .mv [.s 0],
 p 51 .nilck [.s 50],
 p 52 (.faddr 0) [.s 51],
 p 53 (.faddr 8) [.s 52],
  ⟨54, true, .load (some 3), [.s 53], none, [0], []⟩,
 p 55 .mv [.s 2],
  ⟨56, true, .load (some 10), [.s 3], none, [3], []⟩,
  ⟨57, true, .call 127, [.s 54, .s 55, .s 56], none, [0, 10, 57, 24], [0, 10, 57, 24]⟩,
 p 58 .nilck [.s 49],
 p 59 (.faddr 0) [.s 58],
 p 60 (.faddr 8) [.s 59],
  ⟨506, false, .store 3, [.s 60, .s 57], none, [0, 57], [0]⟩]))))))
def F77 : AFun where
  n := 56
  res := []
  code := (.seq (.reg [
 p 10 .mv [.s 0],
 p 11 (.call 124) [.s 10, .c (.int .i64 3)],
 p 9 .mv [.s 11],
 p 12 (.extract 0) [.s 9],
 p 13 (.extract 1) [.s 9],
 p 14 (.extract 2) [.s 9],
 p 3 (.zero [zz, zz, zz, zz, zz, et, et, (.int .u32 0), et, (.int .u32 0)]) [],
 p 2 .mv [.s 12],
  ⟨500, false, .store 10, [.s 3, .s 13], none, [], []⟩,
 p 4 .mv [.s 14]])
 (.seq (.seq (.reg [
 p 15 .mv [.s 4],
 p 16 (.un .not) [.s 15]])
 (.cond (.s 16) .ret
 .skip))
 (.seq (.drw [
 p 18 (.faddr 7) [.s 3],
  ⟨19, true, .load (some 2), [.s 18], none, [3], []⟩,
 p 20 .mv [.s 0],
 p 21 .nilck [.s 20],
 p 22 (.faddr 13) [.s 21],
 p 23 (.faddr 11) [.s 22],
  ⟨24, true, .load none, [.s 23], none, [0], []⟩,
  ⟨25, true, .call 129, [.s 19, .s 24], none, [11, 25], [11, 25]⟩,
 p 17 .mv [.s 25],
 p 26 (.extract 0) [.s 17],
 p 27 (.extract 1) [.s 17],
 p 5 (.zero [(.int .u32 0), et]) [],
  ⟨501, false, .store 2, [.s 5, .s 26], none, [5, 25], [5]⟩,
 p 6 .mv [.s 27]])
 (.seq (.seq (.reg [
 p 28 .mv [.s 6],
 p 29 .len [.s 28],
 p 30 .mv [.c zz]])
 (.block 0 (.loop (.seq (.reg [
 p 31 (.bin .lss) [.s 30, .s 29]])
 (.seq (.cond (.s 31) .skip
 (.exit 0))
 (.seq (.block 1 (.seq (.reg [
 p 32 (.iaddr 2) [.s 28, .s 30],
 p 33 (.load (some 2)) [.s 32],
 p 8 (.zero [zz, (.int .u32 0)]) [],
  ⟨502, false, .store 2, [.s 8, .s 33], none, [], []⟩])
 (.reg [
 p 34 .mv [.s 0],
 p 35 (.faddr 0) [.s 8],
 p 36 (.load none) [.s 35],
 p 37 (.faddr 1) [.s 8],
 p 38 (.load none) [.s 37],
 p 39 (.conv .i64) [.s 38],
 p 40 (.call 126) [.s 34, .s 36, .s 39, .c zz]])))
 (.reg [
 p 41 (.bin .add) [.s 30, .c (.int .i64 1)],
 p 30 .mv [.s 41]])))))))
 (.seq (.reg [
 p 42 (.load (some 2)) [.s 5],
 p 43 (.faddr 7) [.s 3],
  ⟨503, false, .store 2, [.s 43, .s 42], none, [], []⟩])
 (.drw [
 p 44 .mv [.s 0],
 p 45 .mv [.s 0],
 p 46 .nilck [.s 45],
 p 47 (.faddr 0) [.s 46],
 p 48 (.faddr 8) [.s 47],
  ⟨49, true, .load (some 3), [.s 48], none, [0], []⟩,
 p 50 .mv [.s 2],
  ⟨51, true, .load (some 10), [.s 3], none, [3], []⟩,
  ⟨52, true, .call 127, [.s 49, .s 50, .s 51], none, [0, 11, 40, 52, 25], [0, 11, 40, 52, 25]⟩,
 p 53 .nilck [.s 44],
 p 54 (.faddr 0) [.s 53],
 p 55 (.faddr 8) [.s 54],
  ⟨504, false, .store 3, [.s 55, .s 52], none, [0, 52], [0]⟩]))))))
def F78 : AFun where
  n := 64
  res := []
  code := (.seq (.reg [
 p 8 .mv [.s 0],
 p 9 (.call 124) [.s 8, .c (.int .i64 3)],
 p 7 .mv [.s 9],
 p 10 (.extract 0) [.s 7],
 p 11 (.extract 1) [.s 7],
 p 12 (.extract 2) [.s 7],
 p 3 (.zero [zz, zz, zz, zz, zz, et, et, (.int .u32 0), et, (.int .u32 0)]) [],
 p 2 .mv [.s 10],
  ⟨500, false, .store 10, [.s 3, .s 11], none, [], []⟩,
 p 4 .mv [.s 12]])
 (.seq (.seq (.reg [
 p 13 .mv [.s 4],
 p 14 (.un .not) [.s 13]])
 (.cond (.s 14) .ret
 .skip))
 (.seq (.drw [
 p 16 (.faddr 7) [.s 3],
  ⟨17, true, .load (some 2), [.s 16], none, [3], []⟩,
 p 18 .mv [.s 0],
 p 19 .nilck [.s 18],
 p 20 (.faddr 13) [.s 19],
 p 21 (.faddr 9) [.s 20],
  ⟨22, true, .load none, [.s 21], none, [0], []⟩,
 p 23 .mv [.s 0],
 p 24 .nilck [.s 23],
 p 25 (.faddr 13) [.s 24],
 p 26 (.faddr 11) [.s 25],
  ⟨27, true, .load none, [.s 26], none, [0], []⟩,
  ⟨28, true, .call 130, [.s 17, .s 22, .s 27], none, [9, 28], [9, 28]⟩,
 p 15 .mv [.s 28],
 p 29 (.extract 0) [.s 15],
 p 30 (.extract 1) [.s 15],
 p 31 (.extract 2) [.s 15],
 p 5 (.zero [(.int .u32 0), et]) [],
  ⟨501, false, .store 2, [.s 5, .s 29], none, [5, 28], [5]⟩,
 p 6 .mv [.s 30],
 p 4 .mv [.s 31]])
 (.seq (.seq (.reg [
 p 32 .mv [.s 4],
 p 33 (.un .not) [.s 32]])
 (.cond (.s 33) (.seq (.reg [
 p 34 .mv [.s 0],
 p 35 .nilck [.s 34],
 p 36 (.faddr 26) [.s 35],
 p 37 (.faddr 0) [.s 36],
  ⟨502, false, .store 1, [.s 37, .c (.int .i64 1)], none, [], []⟩])
 .ret)
 .skip))
 (.seq (.seq (.reg [
 p 38 .mv [.s 0],
 p 39 .mv [.s 6],
 p 40 (.conv .i64) [.s 39],
 p 41 .nilck [.s 38],
 p 42 (.faddr 26) [.s 41],
 p 43 (.faddr 3) [.s 42],
  ⟨503, false, .store 1, [.s 43, .s 40], none, [], []⟩])
 (.seq (.reg [
 p 44 .mv [.s 6],
 p 45 (.bin .eql) [.s 44, .c (.int .u32 0)]])
 (.cond (.s 45) (.reg [
 p 46 .mv [.s 0],
 p 47 .nilck [.s 46],
 p 48 (.faddr 26) [.s 47],
 p 49 (.faddr 0) [.s 48],
  ⟨504, false, .store 1, [.s 49, .c (.int .i64 16)], none, [], []⟩])
 .skip)))
 (.seq (.reg [
 p 50 (.load (some 2)) [.s 5],
 p 51 (.faddr 7) [.s 3],
  ⟨505, false, .store 2, [.s 51, .s 50], none, [], []⟩])
 (.drw [
 p 52 .mv [.s 0],
 p 53 .mv [.s 0],
 p 54 .nilck [.s 53],
 p 55 (.faddr 0) [.s 54],
 p 56 (.faddr 8) [.s 55],
  ⟨57, true, .load (some 3), [.s 56], none, [0], []⟩,
 p 58 .mv [.s 2],
  ⟨59, true, .load (some 10), [.s 3], none, [3], []⟩,
  ⟨60, true, .call 127, [.s 57, .s 58, .s 59], none, [0, 9, 60, 28], [0, 9, 60, 28]⟩,
 p 61 .nilck [.s 52],
 p 62 (.faddr 0) [.s 61],
 p 63 (.faddr 8) [.s 62],
  ⟨506, false, .store 3, [.s 63, .s 60], none, [0, 60], [0]⟩])))))))
def F79 : AFun where
  n := 43
  res := []
  code := (.seq (.drw [
 p 8 .mv [.s 0],
 p 9 .nilck [.s 8],
 p 10 (.faddr 0) [.s 9],
 p 11 (.faddr 8) [.s 10],
  ⟨12, true, .load (some 3), [.s 11], none, [0], []⟩,
 p 13 .mv [.s 0],
 p 14 .nilck [.s 13],
 p 15 (.faddr 13) [.s 14],
 p 16 (.faddr 7) [.s 15],
  ⟨17, true, .load (some 2), [.s 16], none, [0], []⟩,
  ⟨18, true, .call 131, [.s 12, .s 17], none, [0, 18, 41], [0, 18, 41]⟩,
 p 7 .mv [.s 18],
 p 19 (.extract 0) [.s 7],
 p 20 (.extract 1) [.s 7],
 p 21 (.extract 2) [.s 7],
 p 2 (.zero [et, et, et]) [],
  ⟨500, false, .store 3, [.s 2, .s 19], none, [2, 18], [2]⟩,
 p 3 .mv [.s 20],
 p 4 .mv [.s 21]])
 (.seq (.seq (.reg [
 p 22 .mv [.s 4],
 p 23 (.un .not) [.s 22]])
 (.cond (.s 23) (.seq (.reg [
 p 24 .mv [.s 0],
 p 25 .nilck [.s 24],
 p 26 (.faddr 26) [.s 25],
 p 27 (.faddr 0) [.s 26],
  ⟨501, false, .store 1, [.s 27, .c (.int .i64 3)], none, [], []⟩])
 .ret)
 .skip))
 (.seq (.reg [
 p 28 .mv [.s 0],
 p 29 (.load (some 3)) [.s 2],
 p 30 .nilck [.s 28],
 p 31 (.faddr 0) [.s 30],
 p 32 (.faddr 8) [.s 31],
  ⟨502, false, .store 3, [.s 32, .s 29], none, [], []⟩])
 (.seq (.reg [
 p 33 .mv [.s 3],
 p 34 .len [.s 33],
 p 35 .mv [.c zz]])
 (.block 0 (.loop (.seq (.reg [
 p 36 (.bin .lss) [.s 35, .s 34]])
 (.seq (.cond (.s 36) .skip
 (.exit 0))
 (.seq (.block 1 (.seq (.reg [
 p 37 (.iaddr 1) [.s 33, .s 35],
 p 38 (.load none) [.s 37],
 p 6 .mv [.s 38]])
 (.reg [
 p 39 .mv [.s 0],
 p 40 .mv [.s 6],
 p 41 (.call 126) [.s 39, .s 40, .c zz, .c (.int .i64 15)]])))
 (.reg [
 p 42 (.bin .add) [.s 35, .c (.int .i64 1)],
 p 35 .mv [.s 42]]))))))))))
def F80 : AFun where
  n := 6
  res := []
  code := (.reg [
 p 2 .mv [.s 0],
 p 3 .nilck [.s 2],
 p 4 (.faddr 26) [.s 3],
 p 5 (.faddr 0) [.s 4],
  ⟨500, false, .store 1, [.s 5, .c (.int .i64 1)], none, [], []⟩])
def F81 : AFun where
  n := 10
  res := [.cell 2 (some 13)]
  code := (.seq (.reg [
 p 1 (.box 13) [.s 0],
 p 2 (.zero [zz, zz, et, et, ff, ff, ff, et, et, et, et, et, et]) []])
 (.seq (.reg [
 p 4 (.load (some 13)) [.s 1],
 p 5 (.call 47) [.s 4, .c (.int .i64 (-1)), .c zz],
 p 3 .mv [.s 5],
 p 6 (.extract 0) [.s 3],
 p 7 (.extract 1) [.s 3],
 p 8 (.extract 2) [.s 3],
  ⟨500, false, .store 13, [.s 1, .s 6], none, [], []⟩])
 (.seq (.reg [
 p 9 (.load (some 13)) [.s 1],
  ⟨501, false, .store 13, [.s 2, .s 9], none, [], []⟩])
 .ret)))
def F82 : AFun where
  n := 99
  res := [.cell 2 (some 13)]
  code := (.seq (.reg [
 p 1 (.box 13) [.s 0],
 p 2 (.zero [zz, zz, et, et, ff, ff, ff, et, et, et, et, et, et]) []])
 (.seq (.drw [
 p 7 (.faddr 2) [.s 1],
  ⟨8, true, .load none, [.s 7], none, [1], []⟩,
  ⟨9, true, .call 132, [.s 8], none, [9, 12, 15, 92, 96, 38, 41, 44, 72, 76, 79], [9, 12, 15, 92, 96, 38, 41, 44, 72, 76, 79]⟩,
 p 10 (.faddr 3) [.s 1],
  ⟨11, true, .load none, [.s 10], none, [1], []⟩,
  ⟨12, true, .call 133, [.s 11], none, [9, 12, 15, 92, 96, 38, 41, 44, 72, 76, 79], [9, 12, 15, 92, 96, 38, 41, 44, 72, 76, 79]⟩,
 p 13 (.faddr 7) [.s 1],
  ⟨14, true, .load none, [.s 13], none, [1], []⟩,
  ⟨15, true, .call 134, [.s 14], none, [9, 12, 15, 92, 96, 38, 41, 44, 72, 76, 79], [9, 12, 15, 92, 96, 38, 41, 44, 72, 76, 79]⟩,
 p 16 (.faddr 2) [.s 1],
  ⟨500, false, .store 1, [.s 16, .s 9], none, [1, 9], [1]⟩,
 p 17 (.faddr 3) [.s 1],
  ⟨501, false, .store 1, [.s 17, .s 12], none, [1, 12], [1]⟩,
 p 18 (.faddr 7) [.s 1],
  ⟨502, false, .store 1, [.s 18, .s 15], none, [1, 15], [1]⟩])
 (.seq (.seq (.reg [
 p 19 (.faddr 2) [.s 1],
 p 20 (.load none) [.s 19],
 p 21 .len [.s 20],
 p 22 .mv [.c zz]])
 (.block 0 (.loop (.seq (.reg [
 p 23 (.bin .lss) [.s 22, .s 21]])
 (.seq (.cond (.s 23) .skip
 (.exit 0))
 (.seq (.block 1 (.seq (.reg [
 p 24 .mv [.s 22],
 p 25 (.iaddr 6) [.s 20, .s 22],
 p 26 (.load (some 6)) [.s 25],
 p 4 (.zero [zz, zz, zz, et, et, et]) [],
 p 3 .mv [.s 24],
  ⟨503, false, .store 6, [.s 4, .s 26], none, [], []⟩])
 (.drw [
 p 27 (.faddr 2) [.s 1],
  ⟨28, true, .load none, [.s 27], none, [1], []⟩,
 p 29 .mv [.s 3],
 p 30 (.faddr 2) [.s 1],
  ⟨31, true, .load none, [.s 30], none, [1], []⟩,
 p 32 .mv [.s 3],
 p 33 (.faddr 2) [.s 1],
  ⟨34, true, .load none, [.s 33], none, [1], []⟩,
 p 35 .mv [.s 3],
 p 36 (.faddr 3) [.s 4],
  ⟨37, true, .load none, [.s 36], none, [4], []⟩,
  ⟨38, true, .call 135, [.s 37], none, [38, 41, 44, 72, 76, 79], [38, 41, 44, 72, 76, 79]⟩,
 p 39 (.faddr 4) [.s 4],
  ⟨40, true, .load none, [.s 39], none, [4], []⟩,
  ⟨41, true, .call 135, [.s 40], none, [38, 41, 44, 72, 76, 79], [38, 41, 44, 72, 76, 79]⟩,
 p 42 (.faddr 5) [.s 4],
  ⟨43, true, .load none, [.s 42], none, [4], []⟩,
  ⟨44, true, .call 135, [.s 43], none, [38, 41, 44, 72, 76, 79], [38, 41, 44, 72, 76, 79]⟩,
  ⟨45, true, .iaddr 6, [.s 28, .s 29], none, [9, 12, 15, 92, 96], []⟩,
 p 46 (.faddr 3) [.s 45],
  ⟨504, false, .store 1, [.s 46, .s 38], none, [9, 12, 15, 92, 96, 38], [9, 12, 15, 92, 96, 38]⟩,
  ⟨47, true, .iaddr 6, [.s 31, .s 32], none, [9, 12, 15, 92, 96], []⟩,
 p 48 (.faddr 4) [.s 47],
  ⟨505, false, .store 1, [.s 48, .s 41], none, [9, 12, 15, 92, 96, 41], [9, 12, 15, 92, 96, 41]⟩,
  ⟨49, true, .iaddr 6, [.s 34, .s 35], none, [9, 12, 15, 92, 96], []⟩,
 p 50 (.faddr 5) [.s 49],
  ⟨506, false, .store 1, [.s 50, .s 44], none, [9, 12, 15, 92, 96, 44], [9, 12, 15, 92, 96, 44]⟩])))
 (.reg [
 p 51 (.bin .add) [.s 22, .c (.int .i64 1)],
 p 22 .mv [.s 51]])))))))
 (.seq (.seq (.reg [
 p 52 (.faddr 7) [.s 1],
 p 53 (.load none) [.s 52],
 p 54 .len [.s 53],
 p 55 .mv [.c zz]])
 (.block 2 (.loop (.seq (.reg [
 p 56 (.bin .lss) [.s 55, .s 54]])
 (.seq (.cond (.s 56) .skip
 (.exit 2))
 (.seq (.block 3 (.seq (.reg [
 p 57 .mv [.s 55],
 p 58 (.iaddr 28) [.s 53, .s 55],
 p 59 (.load (some 28)) [.s 58],
 p 6 (.zero [zz, zz, zz, zz, zz, zz, zz, zz, zz, zz, zz, zz, zz, et, ff, zz, zz, zz, zz, zz, zz, zz, zz, zz, et, ff, et, ff]) [],
 p 5 .mv [.s 57],
  ⟨507, false, .store 28, [.s 6, .s 59], none, [], []⟩])
 (.drw [
 p 60 (.faddr 7) [.s 1],
  ⟨61, true, .load none, [.s 60], none, [1], []⟩,
 p 62 .mv [.s 5],
 p 63 (.faddr 7) [.s 1],
  ⟨64, true, .load none, [.s 63], none, [1], []⟩,
 p 65 .mv [.s 5],
 p 66 (.faddr 7) [.s 1],
  ⟨67, true, .load none, [.s 66], none, [1], []⟩,
 p 68 .mv [.s 5],
 p 69 (.faddr 4) [.s 6],
 p 70 (.faddr 9) [.s 69],
  ⟨71, true, .load none, [.s 70], none, [6], []⟩,
  ⟨72, true, .call 136, [.s 71], none, [38, 41, 44, 72, 76, 79], [38, 41, 44, 72, 76, 79]⟩,
 p 73 (.faddr 15) [.s 6],
 p 74 (.faddr 9) [.s 73],
  ⟨75, true, .load none, [.s 74], none, [6], []⟩,
  ⟨76, true, .call 136, [.s 75], none, [38, 41, 44, 72, 76, 79], [38, 41, 44, 72, 76, 79]⟩,
 p 77 (.faddr 26) [.s 6],
  ⟨78, true, .load none, [.s 77], none, [6], []⟩,
  ⟨79, true, .call 137, [.s 78], none, [38, 41, 44, 72, 76, 79], [38, 41, 44, 72, 76, 79]⟩,
  ⟨80, true, .iaddr 28, [.s 61, .s 62], none, [9, 12, 15, 92, 96], []⟩,
 p 81 (.faddr 4) [.s 80],
 p 82 (.faddr 9) [.s 81],
  ⟨508, false, .store 1, [.s 82, .s 72], none, [9, 12, 15, 92, 96, 72], [9, 12, 15, 92, 96, 72]⟩,
  ⟨83, true, .iaddr 28, [.s 64, .s 65], none, [9, 12, 15, 92, 96], []⟩,
 p 84 (.faddr 15) [.s 83],
 p 85 (.faddr 9) [.s 84],
  ⟨509, false, .store 1, [.s 85, .s 76], none, [9, 12, 15, 92, 96, 76], [9, 12, 15, 92, 96, 76]⟩,
  ⟨86, true, .iaddr 28, [.s 67, .s 68], none, [9, 12, 15, 92, 96], []⟩,
 p 87 (.faddr 26) [.s 86],
  ⟨510, false, .store 1, [.s 87, .s 79], none, [9, 12, 15, 92, 96, 79], [9, 12, 15, 92, 96, 79]⟩])))
 (.reg [
 p 88 (.bin .add) [.s 55, .c (.int .i64 1)],
 p 55 .mv [.s 88]])))))))
 (.seq (.reg [
 p 89 (.faddr 8) [.s 1],
 p 90 (.load (some 3)) [.s 89],
 p 91 (.build [zz, zz, zz, zz, zz, et, et, (.int .u32 0), et, (.int .u32 0)] []) [],
 p 92 (.call 127) [.s 90, .c (.int .i64 (-1)), .s 91],
 p 93 (.faddr 8) [.s 1],
  ⟨511, false, .store 3, [.s 93, .s 92], none, [], []⟩])
 (.seq (.reg [
 p 94 (.faddr 11) [.s 1],
 p 95 (.load (some 2)) [.s 94],
 p 96 (.call 138) [.s 95, .c (.int .i64 (-1))],
 p 97 (.faddr 11) [.s 1],
  ⟨512, false, .store 2, [.s 97, .s 96], none, [], []⟩])
 (.seq (.reg [
 p 98 (.load (some 13)) [.s 1],
  ⟨513, false, .store 13, [.s 2, .s 98], none, [], []⟩])
 .ret)))))))
def F83 : AFun where
  n := 57
  res := []
  code := (.seq (.reg [
 p 2 .mv [.c et]])
 (.seq (.seq (.reg [
 p 5 .mv [.s 0],
 p 6 .nilck [.s 5],
 p 7 (.faddr 0) [.s 6],
 p 8 (.faddr 7) [.s 7],
 p 9 (.load none) [.s 8],
 p 10 .len [.s 9],
 p 11 .mv [.c zz]])
 (.block 0 (.loop (.seq (.reg [
 p 12 (.bin .lss) [.s 11, .s 10]])
 (.seq (.cond (.s 12) .skip
 (.exit 0))
 (.seq (.block 1 (.seq (.reg [
 p 13 (.iaddr 28) [.s 9, .s 11],
 p 14 (.load (some 28)) [.s 13],
 p 4 (.zero [zz, zz, zz, zz, zz, zz, zz, zz, zz, zz, zz, zz, zz, et, ff, zz, zz, zz, zz, zz, zz, zz, zz, zz, et, ff, et, ff]) [],
  ⟨500, false, .store 28, [.s 4, .s 14], none, [], []⟩])
 (.block 2 (.seq (.drw [
 p 19 .mv [.s 0],
 p 20 .nilck [.s 19],
 p 21 (.faddr 0) [.s 20],
 p 22 (.faddr 0) [.s 21],
  ⟨23, true, .load none, [.s 22], none, [0], []⟩,
 p 24 (.faddr 1) [.s 4],
  ⟨25, true, .load none, [.s 24], none, [4], []⟩,
 p 26 (.bin .sub) [.s 23, .s 25],
 p 27 .mv [.s 0],
 p 28 .nilck [.s 27],
 p 29 (.faddr 0) [.s 28],
 p 30 (.faddr 2) [.s 29],
  ⟨31, true, .load none, [.s 30], none, [0], []⟩,
 p 32 (.faddr 0) [.s 4],
  ⟨33, true, .load none, [.s 32], none, [4], []⟩,
  ⟨34, true, .iaddr 6, [.s 31, .s 33], none, [0, 50, 17, 40, 41], []⟩,
 p 35 (.faddr 2) [.s 34],
  ⟨36, true, .load none, [.s 35], none, [0, 50, 17, 40, 41], []⟩,
 p 37 (.bin .neq) [.s 26, .s 36],
 p 18 .mv [.s 37]])
 (.cond (.s 18) (.reg [
 p 38 .mv [.s 2],
 p 39 (.load (some 28)) [.s 4],
 p 40 (.buildSl 28 [zz, zz, zz, zz, zz, zz, zz, zz, zz, zz, zz, zz, zz, se, ff, zz, zz, zz, zz, zz, zz, zz, zz, zz, se, ff, se, ff] 1 [0]) [.s 39],
 p 41 (.app 28 272 [zz, zz, zz, zz, zz, zz, zz, zz, zz, zz, zz, zz, zz, se, ff, zz, zz, zz, zz, zz, zz, zz, zz, zz, se, ff, se, ff]) [.s 38, .s 40],
 p 2 .mv [.s 41]])
 (.seq (.reg [
 p 43 (.faddr 3) [.s 4],
 p 44 (.load none) [.s 43],
 p 45 (.bin .eql) [.s 44, .c (.int .i64 2)],
 p 42 .mv [.s 45]])
 (.cond (.s 42) (.reg [
 p 46 .mv [.s 0],
 p 47 (.faddr 0) [.s 4],
 p 48 (.load none) [.s 47],
 p 49 (.build [zz, zz, zz, zz, zz, zz] [(1, 1), (2, 1)]) [.c (.int .i64 13), .s 48],
 p 50 (.call 139) [.s 46, .s 49]])
 (.reg [
 p 15 .mv [.s 0],
 p 16 (.load (some 28)) [.s 4],
 p 17 (.call 140) [.s 15, .s 16]]))))))))
 (.reg [
 p 51 (.bin .add) [.s 11, .c (.int .i64 1)],
 p 11 .mv [.s 51]])))))))
 (.reg [
 p 52 .mv [.s 0],
 p 53 .mv [.s 2],
 p 54 .nilck [.s 52],
 p 55 (.faddr 0) [.s 54],
 p 56 (.faddr 7) [.s 55],
  ⟨501, false, .store 1, [.s 56, .s 53], none, [], []⟩])))
def F84 : AFun where
  n := 48
  res := []
  code := (.seq (.reg [
 p 4 .mv [.s 0],
 p 5 .nilck [.s 4],
 p 6 (.faddr 0) [.s 5],
 p 7 (.faddr 7) [.s 6],
 p 8 (.load none) [.s 7],
 p 9 .len [.s 8],
 p 10 .mv [.c zz]])
 (.block 0 (.loop (.seq (.reg [
 p 11 (.bin .lss) [.s 10, .s 9]])
 (.seq (.cond (.s 11) .skip
 (.exit 0))
 (.seq (.block 1 (.seq (.reg [
 p 12 .mv [.s 10],
 p 13 (.iaddr 28) [.s 8, .s 10],
 p 14 (.load (some 28)) [.s 13],
 p 3 (.zero [zz, zz, zz, zz, zz, zz, zz, zz, zz, zz, zz, zz, zz, et, ff, zz, zz, zz, zz, zz, zz, zz, zz, zz, et, ff, et, ff]) [],
 p 2 .mv [.s 12],
  ⟨500, false, .store 28, [.s 3, .s 14], none, [], []⟩])
 (.seq (.drw [
 p 15 (.faddr 3) [.s 3],
  ⟨16, true, .load none, [.s 15], none, [3], []⟩,
 p 17 (.bin .neq) [.s 16, .c (.int .i64 2)],
 p 18 .mv [.s 17],
  ⟨19, true, .mv, [.s 0], (some (18, true)), [], []⟩,
  ⟨20, true, .nilck, [.s 19], (some (18, true)), [], []⟩,
  ⟨21, true, .faddr 0, [.s 20], (some (18, true)), [], []⟩,
  ⟨22, true, .faddr 0, [.s 21], (some (18, true)), [], []⟩,
  ⟨23, true, .load none, [.s 22], (some (18, true)), [0], []⟩,
  ⟨24, true, .faddr 1, [.s 3], (some (18, true)), [], []⟩,
  ⟨25, true, .load none, [.s 24], (some (18, true)), [3], []⟩,
  ⟨26, true, .bin .sub, [.s 23, .s 25], (some (18, true)), [], []⟩,
  ⟨27, true, .mv, [.s 0], (some (18, true)), [], []⟩,
  ⟨28, true, .nilck, [.s 27], (some (18, true)), [], []⟩,
  ⟨29, true, .faddr 0, [.s 28], (some (18, true)), [], []⟩,
  ⟨30, true, .faddr 3, [.s 29], (some (18, true)), [], []⟩,
  ⟨31, true, .load none, [.s 30], (some (18, true)), [0], []⟩,
  ⟨32, true, .faddr 0, [.s 3], (some (18, true)), [], []⟩,
  ⟨33, true, .load none, [.s 32], (some (18, true)), [3], []⟩,
  ⟨34, true, .iaddr 5, [.s 31, .s 33], (some (18, true)), [0], []⟩,
  ⟨35, true, .faddr 4, [.s 34], (some (18, true)), [], []⟩,
  ⟨36, true, .load none, [.s 35], (some (18, true)), [0], []⟩,
  ⟨37, true, .bin .geq, [.s 26, .s 36], (some (18, true)), [], []⟩,
 p 38 .pick [.s 18, .s 37, .c ff]])
 (.cond (.s 38) (.reg [
 p 39 .mv [.s 0],
 p 40 .nilck [.s 39],
 p 41 (.faddr 0) [.s 40],
 p 42 (.faddr 7) [.s 41],
 p 43 (.load none) [.s 42],
 p 44 .mv [.s 2],
 p 45 (.iaddr 28) [.s 43, .s 44],
 p 46 (.faddr 27) [.s 45],
  ⟨501, false, .store 1, [.s 46, .c (.bool true)], none, [], []⟩])
 .skip))))
 (.reg [
 p 47 (.bin .add) [.s 10, .c (.int .i64 1)],
 p 10 .mv [.s 47]])))))))
def F85 : AFun where
  n := 85
  res := []
  code := (.seq (.reg [
 p 13 .mv [.s 0],
 p 14 .nilck [.s 13],
 p 15 (.faddr 0) [.s 14],
 p 16 (.faddr 8) [.s 15],
 p 17 (.load (some 3)) [.s 16],
 p 18 (.call 141) [.s 17],
 p 12 .mv [.s 18],
 p 19 (.extract 0) [.s 12],
 p 20 (.extract 1) [.s 12],
 p 21 (.extract 2) [.s 12],
 p 2 (.zero [et, et, et]) [],
  ⟨500, false, .store 3, [.s 2, .s 19], none, [], []⟩,
 p 3 .mv [.s 20],
 p 4 .mv [.s 21]])
 (.seq (.reg [
 p 22 .mv [.s 0],
 p 23 (.load (some 3)) [.s 2],
 p 24 .nilck [.s 22],
 p 25 (.faddr 0) [.s 24],
 p 26 (.faddr 8) [.s 25],
  ⟨501, false, .store 3, [.s 26, .s 23], none, [], []⟩])
 (.seq (.reg [
 p 27 .mv [.s 3],
 p 28 .len [.s 27],
 p 29 .mv [.c zz]])
 (.block 0 (.loop (.seq (.reg [
 p 30 (.bin .lss) [.s 29, .s 28]])
 (.seq (.cond (.s 30) .skip
 (.exit 0))
 (.seq (.block 1 (.seq (.reg [
 p 31 .mv [.s 29],
 p 32 (.iaddr 1) [.s 27, .s 29],
 p 33 (.load none) [.s 32],
 p 5 .mv [.s 31],
 p 6 .mv [.s 33]])
 (.seq (.reg [
 p 34 .mv [.s 0],
 p 35 .mv [.s 6],
 p 36 (.build [zz, zz, zz, zz, zz, zz] [(1, 1), (3, 1)]) [.c (.int .i64 11), .s 35],
 p 37 (.call 139) [.s 34, .s 36]])
 (.seq (.seq (.reg [
 p 38 .mv [.s 4],
 p 39 .mv [.s 5],
 p 40 (.iaddr 1) [.s 38, .s 39],
 p 41 (.load none) [.s 40],
 p 42 .len [.s 41],
 p 43 .mv [.c zz]])
 (.block 2 (.loop (.seq (.reg [
 p 44 (.bin .lss) [.s 43, .s 42]])
 (.seq (.cond (.s 44) .skip
 (.exit 2))
 (.seq (.block 3 (.seq (.reg [
 p 45 (.iaddr 1) [.s 41, .s 43],
 p 46 (.load none) [.s 45],
 p 8 .mv [.s 46]])
 (.reg [
 p 47 .mv [.s 0],
 p 48 .mv [.s 8],
 p 49 (.build [zz, zz, zz, zz, zz, zz] [(1, 1), (3, 1), (5, 1)]) [.c (.int .i64 12), .s 48, .c (.int .i64 15)],
 p 50 (.call 139) [.s 47, .s 49]])))
 (.reg [
 p 51 (.bin .add) [.s 43, .c (.int .i64 1)],
 p 43 .mv [.s 51]])))))))
 (.seq (.reg [
 p 52 .mv [.s 0],
 p 53 .nilck [.s 52],
 p 54 (.faddr 0) [.s 53],
 p 55 (.faddr 8) [.s 54],
 p 56 (.load (some 3)) [.s 55],
 p 57 (.call 143) [.s 56],
 p 58 .mv [.s 6],
 p 59 (.call 142) [.s 57, .s 58],
 p 9 .mv [.s 59]])
 (.seq (.reg [
 p 60 .mv [.s 9],
 p 61 (.bin .geq) [.s 60, .c zz]])
 (.cond (.s 61) (.seq (.reg [
 p 62 .mv [.s 0],
 p 63 .nilck [.s 62],
 p 64 (.faddr 0) [.s 63],
 p 65 (.faddr 7) [.s 64],
 p 66 (.load none) [.s 65],
 p 67 .len [.s 66],
 p 68 .mv [.c zz]])
 (.block 4 (.loop (.seq (.reg [
 p 69 (.bin .lss) [.s 68, .s 67]])
 (.seq (.cond (.s 69) .skip
 (.exit 4))
 (.seq (.block 5 (.seq (.reg [
 p 70 .mv [.s 68],
 p 71 (.iaddr 28) [.s 66, .s 68],
 p 72 (.load (some 28)) [.s 71],
 p 11 (.zero [zz, zz, zz, zz, zz, zz, zz, zz, zz, zz, zz, zz, zz, et, ff, zz, zz, zz, zz, zz, zz, zz, zz, zz, et, ff, et, ff]) [],
 p 10 .mv [.s 70],
  ⟨502, false, .store 28, [.s 11, .s 72], none, [], []⟩])
 (.drw [
 p 73 .mv [.s 0],
 p 74 .nilck [.s 73],
 p 75 (.faddr 0) [.s 74],
 p 76 (.faddr 7) [.s 75],
  ⟨77, true, .load none, [.s 76], none, [0], []⟩,
 p 78 .mv [.s 10],
  ⟨79, true, .load (some 28), [.s 11], none, [11], []⟩,
 p 80 .mv [.s 9],
  ⟨81, true, .call 144, [.s 79, .s 80], none, [0, 18, 37, 50, 81], []⟩,
  ⟨82, true, .iaddr 28, [.s 77, .s 78], none, [0, 18, 37, 50, 81], []⟩,
  ⟨503, false, .store 28, [.s 82, .s 81], none, [0, 18, 37, 50, 81], [0, 18, 37, 50, 81]⟩])))
 (.reg [
 p 83 (.bin .add) [.s 68, .c (.int .i64 1)],
 p 68 .mv [.s 83]])))))))
 .skip)))))))
 (.reg [
 p 84 (.bin .add) [.s 29, .c (.int .i64 1)],
 p 29 .mv [.s 84]])))))))))
def F86 : AFun where
  n := 82
  res := []
  code := (.seq (.drw [
 p 8 .mv [.s 0],
 p 9 .nilck [.s 8],
 p 10 (.faddr 0) [.s 9],
 p 11 (.faddr 7) [.s 10],
  ⟨12, true, .load none, [.s 11], none, [0], []⟩,
 p 13 .mv [.s 0],
 p 14 .nilck [.s 13],
 p 15 (.faddr 0) [.s 14],
 p 16 (.faddr 2) [.s 15],
  ⟨17, true, .load none, [.s 16], none, [0], []⟩,
 p 18 .len [.s 17],
 p 19 .mv [.s 0],
 p 20 .nilck [.s 19],
 p 21 (.faddr 0) [.s 20],
  ⟨22, true, .load (some 13), [.s 21], none, [0], []⟩,
  ⟨23, true, .call 146, [.s 22], none, [0, 50, 59, 78], []⟩,
  ⟨24, true, .call 145, [.s 12, .s 18, .s 23], none, [0, 50, 59, 78, 23], []⟩,
 p 7 .mv [.s 24],
 p 25 (.extract 0) [.s 7],
 p 26 (.extract 1) [.s 7],
 p 2 .mv [.s 25],
 p 3 .mv [.s 26]])
 (.seq (.seq (.reg [
 p 27 .mv [.s 0],
 p 28 .nilck [.s 27],
 p 29 (.faddr 0) [.s 28],
 p 30 (.faddr 5) [.s 29],
 p 31 (.load none) [.s 30],
 p 32 .mv [.s 31],
  ⟨33, true, .mv, [.s 3], (some (32, false)), [], []⟩,
  ⟨34, true, .un .not, [.s 33], (some (32, false)), [], []⟩,
 p 35 .pick [.s 32, .c (.bool true), .s 34]])
 (.cond (.s 35) .ret
 .skip))
 (.seq (.reg [
 p 36 .mv [.s 0],
 p 37 .nilck [.s 36],
 p 38 (.faddr 0) [.s 37],
 p 39 (.faddr 7) [.s 38],
 p 40 (.load none) [.s 39],
 p 41 .mv [.s 2],
 p 42 (.iaddr 28) [.s 40, .s 41],
 p 43 (.load (some 28)) [.s 42],
 p 44 .mv [.s 0],
 p 45 (.mkfn 147 1) [.s 44],
 p 4 (.zero [zz, zz, zz, zz, zz, zz, zz, zz, zz, zz, zz, zz, zz, et, ff, zz, zz, zz, zz, zz, zz, zz, zz, zz, et, ff, et, ff]) [],
  ⟨500, false, .store 28, [.s 4, .s 43], none, [], []⟩,
 p 5 .mv [.s 45]])
 (.seq (.reg [
 p 46 .mv [.s 0],
 p 47 (.faddr 0) [.s 4],
 p 48 (.load none) [.s 47],
 p 49 (.build [zz, zz, zz, zz, zz, zz] [(1, 1), (2, 1)]) [.c (.int .i64 2), .s 48],
 p 50 (.call 139) [.s 46, .s 49]])
 (.seq (.seq (.reg [
 p 51 .mv [.s 0],
 p 52 .nilck [.s 51],
 p 53 (.faddr 0) [.s 52],
 p 54 (.faddr 6) [.s 53],
 p 55 (.load none) [.s 54]])
 (.cond (.s 55) (.reg [
 p 56 .mv [.s 0],
 p 57 (.mkfn 148 1) [.s 56],
 p 5 .mv [.s 57]])
 .skip))
 (.seq (.reg [
 p 58 .mv [.s 5],
 p 59 .callv [.s 58, .s 4],
 p 6 .mv [.s 59]])
 (.seq (.drw [
 p 60 .mv [.s 0],
 p 61 .nilck [.s 60],
 p 62 (.faddr 0) [.s 61],
 p 63 (.faddr 7) [.s 62],
  ⟨64, true, .load none, [.s 63], none, [0], []⟩,
 p 65 .mv [.s 2],
  ⟨66, true, .load (some 28), [.s 4], none, [4], []⟩,
  ⟨67, true, .iaddr 28, [.s 64, .s 65], none, [0, 50, 59, 78], []⟩,
  ⟨501, false, .store 28, [.s 67, .s 66], none, [0, 50, 59, 78], [0, 50, 59, 78]⟩])
 (.seq (.reg [
 p 68 .mv [.s 6]])
 (.cond (.s 68) (.reg [
 p 69 .mv [.s 0],
 p 70 .mv [.s 0],
 p 71 .nilck [.s 70],
 p 72 (.faddr 0) [.s 71],
 p 73 (.faddr 7) [.s 72],
 p 74 (.load none) [.s 73],
 p 75 .mv [.s 2],
 p 76 .mv [.s 2],
 p 77 (.bin .add) [.s 76, .c (.int .i64 1)],
 p 78 (.call 90) [.s 74, .s 75, .s 77],
 p 79 .nilck [.s 69],
 p 80 (.faddr 0) [.s 79],
 p 81 (.faddr 7) [.s 80],
  ⟨502, false, .store 1, [.s 81, .s 78], none, [], []⟩])
 .skip)))))))))
def F87 : AFun where
  n := 32
  res := [.cell 2 (some 3)]
  code := (.seq (.reg [
 p 1 (.box 3) [.s 0],
 p 2 (.zero [et, et, et]) []])
 (.seq (.drw [
 p 6 (.faddr 0) [.s 1],
 p 7 (.faddr 0) [.s 6],
  ⟨8, true, .load none, [.s 7], none, [1], []⟩,
 p 9 (.call 137) [.s 8],
 p 10 (.faddr 0) [.s 1],
 p 11 (.faddr 1) [.s 10],
  ⟨12, true, .load none, [.s 11], none, [1], []⟩,
 p 13 (.call 149) [.s 12],
  ⟨14, true, .build [et, et] [(0, 1), (1, 1)], [.s 9, .s 13], none, [9, 13], []⟩,
  ⟨15, true, .build [et, et, et] [(0, 2)], [.s 14], none, [9, 13], []⟩,
 p 3 (.zero [et, et, et]) [],
  ⟨500, false, .store 3, [.s 3, .s 15], none, [3, 9, 13], [3]⟩])
 (.seq (.seq (.reg [
 p 16 (.faddr 2) [.s 1],
 p 17 (.load none) [.s 16],
 p 18 .len [.s 17],
 p 19 .mv [.c zz]])
 (.block 0 (.loop (.seq (.reg [
 p 20 (.bin .lss) [.s 19, .s 18]])
 (.seq (.cond (.s 20) .skip
 (.exit 0))
 (.seq (.block 1 (.seq (.reg [
 p 21 (.iaddr 10) [.s 17, .s 19],
 p 22 (.load (some 10)) [.s 21],
 p 5 (.zero [zz, zz, zz, zz, zz, et, et, (.int .u32 0), et, (.int .u32 0)]) [],
  ⟨501, false, .store 10, [.s 5, .s 22], none, [], []⟩])
 (.drw [
 p 23 (.faddr 2) [.s 3],
  ⟨24, true, .load none, [.s 23], none, [3], []⟩,
  ⟨25, true, .load (some 10), [.s 5], none, [5], []⟩,
 p 26 (.call 150) [.s 25],
  ⟨27, true, .buildSlL 10 [zz, zz, zz, zz, zz, se, se, (.int .u32 0), se, (.int .u32 0)] 1 [0], [.s 26], none, [26], [26]⟩,
  ⟨28, true, .app 10 128 [zz, zz, zz, zz, zz, se, se, (.int .u32 0), se, (.int .u32 0)], [.s 24, .s 27], none, [9, 13, 27, 28], [9, 13, 27, 28]⟩,
 p 29 (.faddr 2) [.s 3],
  ⟨502, false, .store 1, [.s 29, .s 28], none, [3, 9, 13, 27, 28], [3]⟩])))
 (.reg [
 p 30 (.bin .add) [.s 19, .c (.int .i64 1)],
 p 19 .mv [.s 30]])))))))
 (.seq (.reg [
 p 31 (.load (some 3)) [.s 3],
  ⟨503, false, .store 3, [.s 2, .s 31], none, [], []⟩])
 .ret))))
def F88 : AFun where
  n := 23
  res := [.tmp 4]
  code := (.seq (.reg [
 p 2 (.box 3) [.s 0],
 p 4 .mv [.c ff]])
 (.seq (.reg [
 p 5 .mv [.s 1],
 p 6 (.bin .geq) [.s 5, .c zz],
 p 7 .mv [.s 6],
  ⟨8, true, .mv, [.s 1], (some (7, true)), [], []⟩,
  ⟨9, true, .faddr 2, [.s 2], (some (7, true)), [], []⟩,
  ⟨10, true, .load none, [.s 9], (some (7, true)), [], []⟩,
  ⟨11, true, .len, [.s 10], (some (7, true)), [], []⟩,
  ⟨12, true, .bin .lss, [.s 8, .s 11], (some (7, true)), [], []⟩,
 p 13 .pick [.s 7, .s 12, .c ff],
 p 14 .mv [.s 13],
  ⟨15, true, .faddr 2, [.s 2], (some (14, true)), [], []⟩,
  ⟨16, true, .load none, [.s 15], (some (14, true)), [], []⟩,
  ⟨17, true, .mv, [.s 1], (some (14, true)), [], []⟩,
  ⟨18, true, .iaddr 10, [.s 16, .s 17], (some (14, true)), [], []⟩,
  ⟨19, true, .faddr 0, [.s 18], (some (14, true)), [], []⟩,
  ⟨20, true, .load none, [.s 19], (some (14, true)), [], []⟩,
  ⟨21, true, .bin .neq, [.s 20, .c zz], (some (14, true)), [], []⟩,
 p 22 .pick [.s 14, .s 21, .c ff],
 p 4 .mv [.s 22]])
 .ret))
def F89 : AFun where
  n := 14
  res := [.tmp 4, .tmp 5]
  code := (.seq (.reg [
 p 4 .mv [.c zz],
 p 5 .mv [.c ff]])
 (.seq (.reg [
 p 6 .mv [.s 0],
 p 7 .nilck [.s 6],
 p 8 (.faddr 7) [.s 7],
 p 9 (.load none) [.s 8],
 p 10 .mv [.s 1],
 p 11 (.call 151) [.s 9, .s 10, .c (.fn 152 [] [])],
 p 12 (.extract 0) [.s 11],
 p 13 (.extract 1) [.s 11],
 p 4 .mv [.s 12],
 p 5 .mv [.s 13]])
 .ret))
def F90 : AFun where
  n := 33
  res := [.tmp 6]
  code := (.seq (.reg [
 p 6 .mv [.c et]])
 (.seq (.reg [
 p 8 .mv [.s 0],
 p 9 .mv [.s 1],
 p 10 .mv [.s 2],
 p 11 .mv [.s 0],
 p 12 .len [.s 11],
 p 13 .slice3 [.s 8, .s 9, .s 10, .s 12]])
 (.seq (.seq (.reg [
 p 14 .mv [.s 1],
 p 15 .mv [.s 2],
 p 16 (.bin .eql) [.s 14, .s 15]])
 (.cond (.s 16) (.seq (.reg [
 p 17 .mv [.s 0],
 p 6 .mv [.s 17]])
 .ret)
 .skip))
 (.seq (.reg [
 p 18 .mv [.s 0],
 p 19 .len [.s 18],
 p 7 .mv [.s 19]])
 (.seq (.drw [
 p 20 .mv [.s 0],
 p 21 .mv [.s 1],
  ⟨22, true, .slice 28 false true, [.s 20, .s 21], none, [0, 26], []⟩,
 p 23 .mv [.s 0],
 p 24 .mv [.s 2],
  ⟨25, true, .slice 28 true false, [.s 23, .s 24], none, [0, 26], []⟩,
  ⟨26, true, .app 28 272 [zz, zz, zz, zz, zz, zz, zz, zz, zz, zz, zz, zz, zz, se, ff, zz, zz, zz, zz, zz, zz, zz, zz, zz, se, ff, se, ff], [.s 22, .s 25], none, [0, 26], [0, 26]⟩,
 p 0 .mv [.s 26]])
 (.seq (.reg [
 p 27 .mv [.s 0],
 p 28 .mv [.s 0],
 p 29 .len [.s 28],
 p 30 .mv [.s 7],
 p 31 (.slice 28 true true) [.s 27, .s 29, .s 30],
  ⟨500, false, .clear [zz, zz, zz, zz, zz, zz, zz, zz, zz, zz, zz, zz, zz, se, ff, zz, zz, zz, zz, zz, zz, zz, zz, zz, se, ff, se, ff], [.s 31], none, [], []⟩])
 (.seq (.reg [
 p 32 .mv [.s 0],
 p 6 .mv [.s 32]])
 .ret)))))))
def F91 : AFun where
  n := 95
  res := [.tmp 6]
  code := (.seq (.reg [
 p 6 .mv [.c et]])
 (.seq (.reg [
 p 10 .mv [.s 0],
 p 11 .mv [.s 1],
 p 12 (.slice 28 true false) [.s 10, .s 11]])
 (.seq (.reg [
 p 13 .mv [.s 2],
 p 14 .len [.s 13],
 p 7 .mv [.s 14]])
 (.seq (.seq (.reg [
 p 15 .mv [.s 7],
 p 16 (.bin .eql) [.s 15, .c zz]])
 (.cond (.s 16) (.seq (.reg [
 p 17 .mv [.s 0],
 p 6 .mv [.s 17]])
 .ret)
 .skip))
 (.seq (.reg [
 p 18 .mv [.s 0],
 p 19 .len [.s 18],
 p 8 .mv [.s 19]])
 (.seq (.seq (.reg [
 p 20 .mv [.s 1],
 p 21 .mv [.s 8],
 p 22 (.bin .eql) [.s 20, .s 21]])
 (.cond (.s 22) (.seq (.reg [
 p 23 .mv [.s 0],
 p 24 .mv [.s 2],
 p 25 (.app 28 272 [zz, zz, zz, zz, zz, zz, zz, zz, zz, zz, zz, zz, zz, se, ff, zz, zz, zz, zz, zz, zz, zz, zz, zz, se, ff, se, ff]) [.s 23, .s 24],
 p 6 .mv [.s 25]])
 .ret)
 .skip))
 (.seq (.seq (.reg [
 p 26 .mv [.s 8],
 p 27 .mv [.s 7],
 p 28 (.bin .add) [.s 26, .s 27],
 p 29 .mv [.s 0],
 p 30 .capE [.s 29],
 p 31 (.bin .gtr) [.s 28, .s 30]])
 (.cond (.s 31) (.seq (.reg [
 p 32 .mv [.s 0],
 p 33 .mv [.s 1],
 p 34 (.slice 28 false true) [.s 32, .s 33],
 p 35 .mv [.s 8],
 p 36 .mv [.s 7],
 p 37 (.bin .add) [.s 35, .s 36],
 p 38 .mv [.s 1],
 p 39 (.bin .sub) [.s 37, .s 38],
 p 40 (.appZ 272 [zz, zz, zz, zz, zz, zz, zz, zz, zz, zz, zz, zz, zz, se, ff, zz, zz, zz, zz, zz, zz, zz, zz, zz, se, ff, se, ff]) [.s 34, .s 39],
 p 9 .mv [.s 40]])
 (.seq (.reg [
 p 41 .mv [.s 9],
 p 42 .mv [.s 1],
 p 43 (.slice 28 true false) [.s 41, .s 42],
 p 44 .mv [.s 2],
 p 45 .bad [.s 43, .s 44]])
 (.seq (.drw [
 p 46 .mv [.s 9],
 p 47 .mv [.s 1],
 p 48 .mv [.s 7],
 p 49 (.bin .add) [.s 47, .s 48],
  ⟨50, true, .slice 28 true false, [.s 46, .s 49], none, [40], []⟩,
 p 51 .mv [.s 0],
 p 52 .mv [.s 1],
  ⟨53, true, .slice 28 true false, [.s 51, .s 52], none, [0], []⟩,
 p 54 .bad [.s 50, .s 53]])
 (.seq (.reg [
 p 55 .mv [.s 9],
 p 6 .mv [.s 55]])
 .ret))))
 .skip))
 (.seq (.reg [
 p 56 .mv [.s 0],
 p 57 .mv [.s 8],
 p 58 .mv [.s 7],
 p 59 (.bin .add) [.s 57, .s 58],
 p 60 (.slice 28 false true) [.s 56, .s 59],
 p 0 .mv [.s 60]])
 (.seq (.seq (.reg [
 p 61 .mv [.s 2],
 p 62 .mv [.s 0],
 p 63 .mv [.s 1],
 p 64 .mv [.s 7],
 p 65 (.bin .add) [.s 63, .s 64],
 p 66 (.slice 28 true false) [.s 62, .s 65],
 p 67 .bad [],
 p 68 (.un .not) [.s 67]])
 (.cond (.s 68) (.seq (.drw [
 p 69 .mv [.s 0],
 p 70 .mv [.s 1],
 p 71 .mv [.s 7],
 p 72 (.bin .add) [.s 70, .s 71],
  ⟨73, true, .slice 28 true false, [.s 69, .s 72], none, [0], []⟩,
 p 74 .mv [.s 0],
 p 75 .mv [.s 1],
  ⟨76, true, .slice 28 true false, [.s 74, .s 75], none, [0], []⟩,
 p 77 .bad [.s 73, .s 76]])
 (.seq (.reg [
 p 78 .mv [.s 0],
 p 79 .mv [.s 1],
 p 80 (.slice 28 true false) [.s 78, .s 79],
 p 81 .mv [.s 2],
 p 82 .bad [.s 80, .s 81]])
 (.seq (.reg [
 p 83 .mv [.s 0],
 p 6 .mv [.s 83]])
 .ret)))
 .skip))
 (.seq (.reg [
 p 84 .mv [.s 0],
 p 85 .mv [.s 8],
 p 86 (.slice 28 true false) [.s 84, .s 85],
 p 87 .mv [.s 2],
 p 88 .bad [.s 86, .s 87]])
 (.seq (.reg [
 p 89 .mv [.s 0],
 p 90 .mv [.s 1],
 p 91 (.slice 28 true false) [.s 89, .s 90],
 p 92 .mv [.s 7],
 p 93 (.call 154) [.s 91, .s 92]])
 (.seq (.reg [
 p 94 .mv [.s 0],
 p 6 .mv [.s 94]])
 .ret))))))))))))
def F92 : AFun where
  n := 15
  res := [.cell 6 (some 28)]
  code := (.seq (.reg [
 p 6 (.zero [zz, zz, zz, zz, zz, zz, zz, zz, zz, zz, zz, zz, zz, et, ff, zz, zz, zz, zz, zz, zz, zz, zz, zz, et, ff, et, ff]) []])
 (.seq (.reg [
 p 7 .mv [.s 0],
 p 8 .mv [.s 1],
 p 9 .mv [.s 2],
 p 10 .mv [.s 2],
 p 11 (.call 155) [.s 10],
 p 12 .mv [.s 2],
 p 13 (.call 155) [.s 12],
 p 14 (.build [zz, zz, zz, zz, zz, zz, zz, zz, zz, zz, zz, zz, zz, et, ff, zz, zz, zz, zz, zz, zz, zz, zz, zz, et, ff, et, ff] [(0, 1), (1, 1), (2, 1), (4, 11), (15, 11)]) [.s 7, .s 8, .s 9, .s 11, .s 13],
  ⟨500, false, .store 28, [.s 6, .s 14], none, [], []⟩])
 .ret))
def F121 : AFun where
  n := 82
  res := [.tmp 6, .tmp 7, .tmp 8]
  code := (.seq (.reg [
 p 4 (.box 6) [.s 1],
 p 6 .mv [.c et],
 p 7 .mv [.c et],
 p 8 .mv [.c zz]])
 (.seq (.reg [
 p 19 .mkmap [],
 p 9 .mv [.s 19]])
 (.seq (.seq (.reg [
 p 20 .mv [.s 0],
 p 21 .len [.s 20],
 p 22 .mv [.c zz]])
 (.block 0 (.loop (.seq (.reg [
 p 23 (.bin .lss) [.s 22, .s 21]])
 (.seq (.cond (.s 23) .skip
 (.exit 0))
 (.seq (.block 1 (.seq (.reg [
 p 24 (.iaddr 6) [.s 20, .s 22],
 p 25 (.load (some 6)) [.s 24],
 p 11 (.zero [zz, zz, zz, et, et, et]) [],
  ⟨500, false, .store 6, [.s 11, .s 25], none, [], []⟩])
 (.reg [
 p 26 .mv [.s 9],
 p 27 (.faddr 0) [.s 11],
 p 28 (.load none) [.s 27],
 p 29 (.build [zz] [(0, 1)]) [.s 28],
  ⟨501, false, .mapset true [some .i64], [.s 26, .s 29, .c (.bool true)], none, [], []⟩])))
 (.reg [
 p 30 (.bin .add) [.s 22, .c (.int .i64 1)],
 p 22 .mv [.s 30]])))))))
 (.seq (.seq (.reg [
 p 31 (.load (some 6)) [.s 4],
 p 32 (.call 192) [.s 31],
 p 12 .mv [.s 32]])
 (.seq (.reg [
 p 33 .mv [.s 12],
 p 34 (.bin .neq) [.s 33, .c zz]])
 (.cond (.s 34) (.seq (.reg [
 p 35 .mv [.s 12],
 p 6 .mv [.c et],
 p 7 .mv [.c et],
 p 8 .mv [.s 35]])
 .ret)
 .skip)))
 (.seq (.block 2 (.seq (.reg [
 p 37 .mv [.s 9],
 p 38 (.faddr 0) [.s 4],
 p 39 (.load none) [.s 38],
 p 40 (.build [zz] [(0, 1)]) [.s 39],
 p 41 (.lookup true [some .i64] ff false) [.s 37, .s 40],
 p 36 .mv [.s 41]])
 (.cond (.s 36) (.seq (.reg [
 p 6 .mv [.c et],
 p 7 .mv [.c et],
 p 8 .mv [.c (.int .i64 11)]])
 .ret)
 (.seq (.reg [
 p 43 .mv [.s 0],
 p 44 .len [.s 43],
 p 45 (.bin .geq) [.s 44, .c (.int .i64 8)],
 p 42 .mv [.s 45]])
 (.cond (.s 42) (.seq (.reg [
 p 6 .mv [.c et],
 p 7 .mv [.c et],
 p 8 .mv [.c (.int .i64 4)]])
 .ret)
 .skip)))))
 (.seq (.reg [
 p 13 .mv [.c et]])
 (.seq (.seq (.reg [
 p 46 .mv [.s 0],
 p 47 .len [.s 46],
 p 48 .mv [.c zz]])
 (.block 3 (.loop (.seq (.reg [
 p 49 (.bin .lss) [.s 48, .s 47]])
 (.seq (.cond (.s 49) .skip
 (.exit 3))
 (.seq (.block 4 (.seq (.reg [
 p 50 (.iaddr 6) [.s 46, .s 48],
 p 51 (.load (some 6)) [.s 50],
 p 15 (.zero [zz, zz, zz, et, et, et]) [],
  ⟨502, false, .store 6, [.s 15, .s 51], none, [], []⟩])
 (.reg [
 p 52 .mv [.s 13],
 p 53 (.load (some 6)) [.s 15],
 p 54 (.call 193) [.s 53],
 p 55 (.buildSl 6 [zz, zz, zz, se, se, se] 1 [0]) [.s 54],
 p 56 (.app 6 96 [zz, zz, zz, se, se, se]) [.s 52, .s 55],
 p 13 .mv [.s 56]])))
 (.reg [
 p 57 (.bin .add) [.s 48, .c (.int .i64 1)],
 p 48 .mv [.s 57]])))))))
 (.seq (.reg [
 p 58 .mv [.s 13],
 p 59 (.mkfn 195 0) [.s 4],
 p 60 (.call 194) [.s 58, .s 59],
 p 16 .mv [.s 60]])
 (.seq (.seq (.reg [
 p 61 .mv [.s 16],
 p 62 (.bin .lss) [.s 61, .c zz]])
 (.cond (.s 62) (.reg [
 p 63 .mv [.s 13],
 p 64 .len [.s 63],
 p 16 .mv [.s 64]])
 .skip))
 (.seq (.reg [
 p 65 .mv [.s 13],
 p 66 .mv [.s 16],
 p 67 (.load (some 6)) [.s 4],
 p 68 (.call 193) [.s 67],
 p 69 (.buildSl 6 [zz, zz, zz, se, se, se] 1 [0]) [.s 68],
 p 70 (.call 196) [.s 65, .s 66, .s 69],
 p 13 .mv [.s 70]])
 (.seq (.reg [
 p 72 .mv [.s 13],
 p 73 .mv [.s 2],
 p 74 (.call 197) [.s 72, .s 73],
 p 71 .mv [.s 74],
 p 75 (.extract 0) [.s 71],
 p 76 (.extract 1) [.s 71],
 p 17 .mv [.s 75],
 p 18 .mv [.s 76]])
 (.seq (.seq (.reg [
 p 77 .mv [.s 18],
 p 78 (.bin .neq) [.s 77, .c zz]])
 (.cond (.s 78) (.seq (.reg [
 p 79 .mv [.s 18],
 p 6 .mv [.c et],
 p 7 .mv [.c et],
 p 8 .mv [.s 79]])
 .ret)
 .skip))
 (.seq (.reg [
 p 80 .mv [.s 13],
 p 81 .mv [.s 17],
 p 6 .mv [.s 80],
 p 7 .mv [.s 81],
 p 8 .mv [.c zz]])
 .ret)))))))))))))
def F122 : AFun where
  n := 72
  res := [.cell 4 (some 3), .cell 5 (some 2), .tmp 6]
  code := (.seq (.reg [
 p 2 (.box 3) [.s 0],
 p 4 (.zero [et, et, et]) [],
 p 5 (.zero [zz, zz]) [],
 p 6 .mv [.c ff]])
 (.seq (.reg [
 p 15 .mkmap [],
  ⟨500, false, .mapset false [some .i64], [.s 15, .c (.int .i64 1), .c (.int .i64 4)], none, [], []⟩,
  ⟨501, false, .mapset false [some .i64], [.s 15, .c (.int .i64 2), .c (.int .i64 4)], none, [], []⟩,
  ⟨502, false, .mapset false [some .i64], [.s 15, .c (.int .i64 3), .c (.int .i64 4)], none, [], []⟩,
 p 16 .mv [.s 15],
 p 7 .mv [.s 16]])
 (.seq (.reg [
 p 17 (.load (some 3)) [.s 2],
 p 18 (.call 87) [.s 17],
 p 8 (.zero [et, et, et]) [],
  ⟨503, false, .store 3, [.s 8, .s 18], none, [], []⟩,
 p 9 .mv [.c zz]])
 (.seq (.seq (.reg [
 p 19 (.faddr 2) [.s 2],
 p 20 (.load none) [.s 19],
 p 21 .len [.s 20],
 p 22 .mv [.c zz]])
 (.block 0 (.loop (.seq (.reg [
 p 23 (.bin .lss) [.s 22, .s 21]])
 (.seq (.cond (.s 23) .skip
 (.exit 0))
 (.seq (.block 1 (.seq (.reg [
 p 24 (.iaddr 10) [.s 20, .s 22],
 p 25 (.load (some 10)) [.s 24],
 p 11 (.zero [zz, zz, zz, zz, zz, et, et, (.int .u32 0), et, (.int .u32 0)]) [],
  ⟨504, false, .store 10, [.s 11, .s 25], none, [], []⟩])
 (.seq (.reg [
 p 26 (.faddr 0) [.s 11],
 p 27 (.load none) [.s 26],
 p 28 .mv [.s 1],
 p 29 (.bin .eql) [.s 27, .s 28]])
 (.cond (.s 29) (.reg [
 p 30 .mv [.s 9],
 p 31 (.bin .add) [.s 30, .c (.int .i64 1)],
 p 9 .mv [.s 31]])
 .skip))))
 (.reg [
 p 32 (.bin .add) [.s 22, .c (.int .i64 1)],
 p 22 .mv [.s 32]])))))))
 (.seq (.reg [
 p 34 (.faddr 0) [.s 8],
 p 35 (.load (some 2)) [.s 34],
 p 36 (.call 198) [.s 35],
 p 33 .mv [.s 36],
 p 37 (.extract 0) [.s 33],
 p 38 (.extract 1) [.s 33],
 p 39 (.extract 2) [.s 33],
 p 12 (.zero [et, et]) [],
 p 13 (.zero [zz, zz]) [],
  ⟨505, false, .store 2, [.s 12, .s 37], none, [], []⟩,
  ⟨506, false, .store 2, [.s 13, .s 38], none, [], []⟩,
 p 14 .mv [.s 39]])
 (.seq (.seq (.reg [
 p 40 .mv [.s 9],
 p 41 .mv [.s 7],
 p 42 .mv [.s 1],
 p 43 (.lookup false [some .i64] zz false) [.s 41, .s 42],
 p 44 (.bin .geq) [.s 40, .s 43],
 p 45 .mv [.s 44],
  ⟨46, true, .mv, [.s 14], (some (45, false)), [], []⟩,
  ⟨47, true, .un .not, [.s 46], (some (45, false)), [], []⟩,
 p 48 .pick [.s 45, .c (.bool true), .s 47],
 p 49 .mv [.s 48],
  ⟨50, true, .faddr 0, [.s 13], (some (49, false)), [], []⟩,
  ⟨51, true, .load none, [.s 50], (some (49, false)), [], []⟩,
  ⟨52, true, .faddr 2, [.s 8], (some (49, false)), [], []⟩,
  ⟨53, true, .load none, [.s 52], (some (49, false)), [], []⟩,
  ⟨54, true, .len, [.s 53], (some (49, false)), [], []⟩,
  ⟨55, true, .bin .geq, [.s 51, .s 54], (some (49, false)), [], []⟩,
 p 56 .pick [.s 49, .c (.bool true), .s 55]])
 (.cond (.s 56) (.seq (.reg [
 p 57 (.load (some 3)) [.s 8],
 p 58 (.build [zz, zz] []) [],
  ⟨507, false, .store 3, [.s 4, .s 57], none, [], []⟩,
  ⟨508, false, .store 2, [.s 5, .s 58], none, [], []⟩,
 p 6 .mv [.c ff]])
 .ret)
 .skip))
 (.seq (.reg [
 p 59 (.load (some 2)) [.s 12],
 p 60 (.faddr 0) [.s 8],
  ⟨509, false, .store 2, [.s 60, .s 59], none, [], []⟩])
 (.seq (.drw [
 p 61 (.faddr 2) [.s 8],
  ⟨62, true, .load none, [.s 61], none, [8], []⟩,
 p 63 (.faddr 0) [.s 13],
  ⟨64, true, .load none, [.s 63], none, [13], []⟩,
 p 65 .mv [.s 1],
  ⟨66, true, .load (some 2), [.s 13], none, [13], []⟩,
 p 67 (.call 200) [.s 65, .s 66],
  ⟨68, true, .call 199, [.s 67], none, [67], [67]⟩,
  ⟨69, true, .iaddr 10, [.s 62, .s 64], none, [18, 36], []⟩,
  ⟨510, false, .store 10, [.s 69, .s 68], none, [18, 36, 68], [18, 36, 68]⟩])
 (.seq (.drw [
  ⟨70, true, .load (some 3), [.s 8], none, [8], []⟩,
  ⟨71, true, .load (some 2), [.s 13], none, [13], []⟩,
  ⟨511, false, .store 3, [.s 4, .s 70], none, [4, 18, 36], [4]⟩,
  ⟨512, false, .store 2, [.s 5, .s 71], none, [5], [5]⟩,
 p 6 .mv [.c (.bool true)]])
 .ret)))))))))
def F123 : AFun where
  n := 50
  res := [.cell 2 (some 13), .tmp 3]
  code := (.seq (.reg [
 p 1 (.box 13) [.s 0],
 p 2 (.zero [zz, zz, et, et, ff, ff, ff, et, et, et, et, et, et]) [],
 p 3 .mv [.c zz]])
 (.seq (.reg [
 p 8 (.load (some 13)) [.s 1],
 p 9 (.call 82) [.s 8],
  ⟨500, false, .store 13, [.s 1, .s 9], none, [], []⟩])
 (.seq (.seq (.reg [
 p 10 (.faddr 4) [.s 1],
 p 11 (.load none) [.s 10]])
 (.cond (.s 11) (.seq (.reg [
 p 12 (.load (some 13)) [.s 1],
  ⟨501, false, .store 13, [.s 2, .s 12], none, [], []⟩,
 p 3 .mv [.c (.int .i64 7)]])
 .ret)
 .skip))
 (.seq (.reg [
 p 13 (.load (some 13)) [.s 1],
 p 14 (.call 146) [.s 13],
 p 4 (.zero [et]) [],
  ⟨502, false, .store 1, [.s 4, .s 14], none, [], []⟩])
 (.seq (.seq (.reg [
 p 15 (.faddr 2) [.s 1],
 p 16 (.load none) [.s 15],
 p 17 .len [.s 16],
 p 18 .mv [.c zz]])
 (.block 0 (.loop (.seq (.reg [
 p 19 (.bin .lss) [.s 18, .s 17]])
 (.seq (.cond (.s 19) .skip
 (.exit 0))
 (.seq (.block 1 (.seq (.reg [
 p 20 (.iaddr 6) [.s 16, .s 18],
 p 21 (.load (some 6)) [.s 20],
 p 6 (.zero [zz, zz, zz, et, et, et]) [],
  ⟨503, false, .store 6, [.s 6, .s 21], none, [], []⟩])
 (.seq (.reg [
 p 22 (.faddr 3) [.s 6],
 p 23 (.load none) [.s 22],
 p 24 (.faddr 4) [.s 6],
 p 25 (.load none) [.s 24],
 p 26 (.buildSl 1 [se] 2 [0, 1]) [.s 23, .s 25],
 p 27 (.call 202) [.s 26],
 p 28 (.mkfn 203 0) [.s 4],
 p 29 (.call 201) [.s 27, .s 28]])
 (.cond (.s 29) (.seq (.reg [
 p 30 (.load (some 13)) [.s 1],
  ⟨504, false, .store 13, [.s 2, .s 30], none, [], []⟩,
 p 3 .mv [.c (.int .i64 4)]])
 .ret)
 .skip))))
 (.reg [
 p 31 (.bin .add) [.s 18, .c (.int .i64 1)],
 p 18 .mv [.s 31]])))))))
 (.seq (.seq (.reg [
 p 32 (.load none) [.s 4],
 p 33 .len [.s 32],
 p 34 .mv [.c zz]])
 (.block 2 (.loop (.seq (.reg [
 p 35 (.bin .lss) [.s 34, .s 33]])
 (.seq (.cond (.s 35) .skip
 (.exit 2))
 (.seq (.block 3 (.seq (.reg [
 p 36 .mv [.s 34],
 p 7 .mv [.s 36]])
 (.drw [
  ⟨37, true, .load none, [.s 4], none, [4], []⟩,
 p 38 .mv [.s 7],
 p 39 (.faddr 2) [.s 1],
  ⟨40, true, .load none, [.s 39], none, [1], []⟩,
 p 41 .mv [.s 7],
  ⟨42, true, .call 204, [.s 40, .s 41], none, [9, 47], []⟩,
  ⟨43, true, .iaddr 2, [.s 37, .s 38], none, [14], []⟩,
 p 44 (.faddr 0) [.s 43],
  ⟨505, false, .store 1, [.s 44, .s 42], none, [14], [14]⟩])))
 (.reg [
 p 45 (.bin .add) [.s 34, .c (.int .i64 1)],
 p 34 .mv [.s 45]])))))))
 (.seq (.reg [
 p 46 (.load none) [.s 4],
 p 47 (.call 205) [.s 1, .s 46]])
 (.seq (.reg [
 p 48 (.faddr 4) [.s 1],
  ⟨506, false, .store 1, [.s 48, .c (.bool true)], none, [], []⟩])
 (.seq (.reg [
 p 49 (.load (some 13)) [.s 1],
  ⟨507, false, .store 13, [.s 2, .s 49], none, [], []⟩,
 p 3 .mv [.c zz]])
 .ret)))))))))
def F124 : AFun where
  n := 52
  res := [.tmp 4, .cell 5 (some 10), .tmp 6]
  code := (.seq (.reg [
 p 4 .mv [.c zz],
 p 5 (.zero [zz, zz, zz, zz, zz, et, et, (.int .u32 0), et, (.int .u32 0)]) [],
 p 6 .mv [.c ff]])
 (.seq (.drw [
 p 8 .mv [.s 0],
 p 9 .nilck [.s 8],
 p 10 (.faddr 0) [.s 9],
 p 11 (.faddr 8) [.s 10],
  ⟨12, true, .load (some 3), [.s 11], none, [0], []⟩,
 p 13 .mv [.s 0],
 p 14 .nilck [.s 13],
 p 15 (.faddr 13) [.s 14],
 p 16 (.faddr 7) [.s 15],
  ⟨17, true, .load (some 2), [.s 16], none, [0], []⟩,
  ⟨18, true, .call 206, [.s 12, .s 17], none, [0], []⟩,
 p 7 .mv [.s 18],
 p 19 (.extract 0) [.s 7],
 p 20 (.extract 1) [.s 7],
 p 4 .mv [.s 19],
 p 6 .mv [.s 20]])
 (.seq (.seq (.reg [
 p 21 .mv [.s 6],
 p 22 (.un .not) [.s 21],
 p 23 .mv [.s 22],
  ⟨24, true, .mv, [.s 0], (some (23, false)), [], []⟩,
  ⟨25, true, .nilck, [.s 24], (some (23, false)), [], []⟩,
  ⟨26, true, .faddr 0, [.s 25], (some (23, false)), [], []⟩,
  ⟨27, true, .faddr 8, [.s 26], (some (23, false)), [], []⟩,
  ⟨28, true, .faddr 2, [.s 27], (some (23, false)), [], []⟩,
  ⟨29, true, .load none, [.s 28], (some (23, false)), [], []⟩,
  ⟨30, true, .mv, [.s 4], (some (23, false)), [], []⟩,
  ⟨31, true, .iaddr 10, [.s 29, .s 30], (some (23, false)), [], []⟩,
  ⟨32, true, .faddr 0, [.s 31], (some (23, false)), [], []⟩,
  ⟨33, true, .load none, [.s 32], (some (23, false)), [], []⟩,
  ⟨34, true, .mv, [.s 1], (some (23, false)), [], []⟩,
  ⟨35, true, .bin .neq, [.s 33, .s 34], (some (23, false)), [], []⟩,
 p 36 .pick [.s 23, .c (.bool true), .s 35]])
 (.cond (.s 36) (.seq (.reg [
 p 37 .mv [.s 0],
 p 38 .nilck [.s 37],
 p 39 (.faddr 26) [.s 38],
 p 40 (.faddr 0) [.s 39],
  ⟨500, false, .store 1, [.s 40, .c (.int .i64 3)], none, [], []⟩])
 (.seq (.reg [
 p 41 (.build [zz, zz, zz, zz, zz, et, et, (.int .u32 0), et, (.int .u32 0)] []) [],
 p 4 .mv [.c zz],
  ⟨501, false, .store 10, [.s 5, .s 41], none, [], []⟩,
 p 6 .mv [.c ff]])
 .ret))
 .skip))
 (.seq (.drw [
 p 42 .mv [.s 4],
 p 43 .mv [.s 0],
 p 44 .nilck [.s 43],
 p 45 (.faddr 0) [.s 44],
 p 46 (.faddr 8) [.s 45],
 p 47 (.faddr 2) [.s 46],
  ⟨48, true, .load none, [.s 47], none, [0], []⟩,
 p 49 .mv [.s 4],
  ⟨50, true, .iaddr 10, [.s 48, .s 49], none, [0], []⟩,
  ⟨51, true, .load (some 10), [.s 50], none, [0], []⟩,
 p 4 .mv [.s 42],
  ⟨502, false, .store 10, [.s 5, .s 51], none, [5, 0], [5]⟩,
 p 6 .mv [.c (.bool true)]])
 .ret))))
def F125 : AFun where
  n := 39
  res := [.cell 4 (some 2), .tmp 5, .tmp 6]
  code := (.seq (.reg [
 p 2 (.box 2) [.s 0],
 p 4 (.zero [et, et]) [],
 p 5 .mv [.c zz],
 p 6 .mv [.c ff]])
 (.seq (.reg [
 p 9 (.load (some 2)) [.s 2],
 p 10 (.call 207) [.s 9],
 p 7 (.zero [et, et]) [],
  ⟨500, false, .store 2, [.s 7, .s 10], none, [], []⟩])
 (.seq (.block 0 (.seq (.reg [
 p 12 (.faddr 1) [.s 7],
 p 13 (.load none) [.s 12],
 p 14 .len [.s 13],
 p 15 (.bin .gtr) [.s 14, .c zz],
 p 11 .mv [.s 15]])
 (.cond (.s 11) (.seq (.reg [
 p 16 (.faddr 1) [.s 7],
 p 17 (.load none) [.s 16],
 p 18 (.iaddr 1) [.s 17, .c zz],
 p 19 (.load none) [.s 18],
 p 8 .mv [.s 19]])
 (.seq (.reg [
 p 20 (.faddr 1) [.s 7],
 p 21 (.load none) [.s 20],
 p 22 (.slice 1 true false) [.s 21, .c (.int .i64 1)],
 p 23 (.faddr 1) [.s 7],
  ⟨501, false, .store 1, [.s 23, .s 22], none, [], []⟩])
 (.seq (.reg [
 p 24 (.load (some 2)) [.s 7],
 p 25 .mv [.s 8],
  ⟨502, false, .store 2, [.s 4, .s 24], none, [], []⟩,
 p 5 .mv [.s 25],
 p 6 .mv [.c (.bool true)]])
 .ret)))
 (.seq (.reg [
 p 27 (.faddr 0) [.s 7],
 p 28 (.load none) [.s 27],
 p 29 .len [.s 28],
 p 30 (.bin .geq) [.s 29, .c (.int .i64 4)],
 p 26 .mv [.s 30]])
 (.cond (.s 26) (.seq (.reg [
 p 31 (.load (some 2)) [.s 7],
  ⟨503, false, .store 2, [.s 4, .s 31], none, [], []⟩,
 p 5 .mv [.c zz],
 p 6 .mv [.c ff]])
 .ret)
 .skip)))))
 (.seq (.reg [
 p 32 (.faddr 0) [.s 7],
 p 33 (.load none) [.s 32],
 p 34 .mv [.s 1],
 p 35 (.buildSl 1 [zz] 1 [0]) [.s 34],
 p 36 (.app 1 8 [zz]) [.s 33, .s 35],
 p 37 (.faddr 0) [.s 7],
  ⟨504, false, .store 1, [.s 37, .s 36], none, [], []⟩])
 (.seq (.reg [
 p 38 (.load (some 2)) [.s 7],
  ⟨505, false, .store 2, [.s 4, .s 38], none, [], []⟩,
 p 5 .mv [.c zz],
 p 6 .mv [.c (.bool true)]])
 .ret)))))
def F126 : AFun where
  n := 26
  res := []
  code := (.drw [
 p 8 .mv [.s 0],
 p 9 .mv [.s 0],
 p 10 .nilck [.s 9],
 p 11 (.faddr 25) [.s 10],
  ⟨12, true, .load none, [.s 11], none, [0], []⟩,
 p 13 .mv [.s 0],
 p 14 .nilck [.s 13],
 p 15 (.faddr 0) [.s 14],
 p 16 (.faddr 0) [.s 15],
  ⟨17, true, .load none, [.s 16], none, [0], []⟩,
 p 18 .mv [.s 1],
 p 19 .mv [.s 2],
 p 20 .mv [.s 3],
 p 21 (.build [zz, zz, zz, zz, zz, zz] [(0, 1), (1, 1), (3, 1), (4, 1), (5, 1)]) [.s 17, .c (.int .i64 12), .s 18, .s 19, .s 20],
 p 22 (.buildSl 6 [zz, zz, zz, zz, zz, zz] 1 [0]) [.s 21],
  ⟨23, true, .app 6 48 [zz, zz, zz, zz, zz, zz], [.s 12, .s 22], none, [0, 22, 23], [0, 22, 23]⟩,
 p 24 .nilck [.s 8],
 p 25 (.faddr 25) [.s 24],
  ⟨500, false, .store 1, [.s 25, .s 23], none, [0, 22, 23], [0]⟩])
def F127 : AFun where
  n := 45
  res := [.cell 6 (some 3)]
  code := (.seq (.reg [
 p 3 (.box 3) [.s 0],
 p 5 (.box 10) [.s 2],
 p 6 (.zero [et, et, et]) []])
 (.seq (.reg [
 p 9 (.load (some 3)) [.s 3],
 p 10 (.call 87) [.s 9],
 p 7 (.zero [et, et, et]) [],
  ⟨500, false, .store 3, [.s 7, .s 10], none, [], []⟩])
 (.seq (.seq (.reg [
 p 11 (.load (some 3)) [.s 3],
 p 12 .mv [.s 1],
 p 13 (.call 88) [.s 11, .s 12],
 p 14 (.un .not) [.s 13]])
 (.cond (.s 14) (.seq (.reg [
 p 15 (.load (some 3)) [.s 7],
  ⟨501, false, .store 3, [.s 6, .s 15], none, [], []⟩])
 .ret)
 .skip))
 (.seq (.reg [
 p 16 (.faddr 2) [.s 3],
 p 17 (.load none) [.s 16],
 p 18 .mv [.s 1],
 p 19 (.iaddr 10) [.s 17, .s 18],
 p 20 (.load (some 10)) [.s 19],
 p 8 (.zero [zz, zz, zz, zz, zz, et, et, (.int .u32 0), et, (.int .u32 0)]) [],
  ⟨502, false, .store 10, [.s 8, .s 20], none, [], []⟩])
 (.seq (.drw [
 p 21 (.faddr 0) [.s 8],
  ⟨22, true, .load none, [.s 21], none, [8], []⟩,
 p 23 (.faddr 1) [.s 8],
  ⟨24, true, .load (some 2), [.s 23], none, [8], []⟩,
 p 25 (.faddr 0) [.s 5],
  ⟨503, false, .store 1, [.s 25, .s 22], none, [5], [5]⟩,
 p 26 (.faddr 1) [.s 5],
  ⟨504, false, .store 2, [.s 26, .s 24], none, [5], [5]⟩])
 (.seq (.reg [
 p 27 (.load (some 10)) [.s 5],
 p 28 (.call 150) [.s 27],
 p 29 (.call 199) [.s 28],
  ⟨505, false, .store 10, [.s 5, .s 29], none, [], []⟩])
 (.seq (.seq (.drw [
 p 30 (.faddr 9) [.s 8],
  ⟨31, true, .load none, [.s 30], none, [8], []⟩,
  ⟨32, true, .load (some 10), [.s 8], none, [8], []⟩,
 p 33 (.call 208) [.s 32],
 p 34 (.bin .neq) [.s 31, .s 33]])
 (.cond (.s 34) (.reg [
 p 35 (.faddr 9) [.s 5],
 p 36 (.load none) [.s 35],
 p 37 (.un .xor) [.s 36],
 p 38 (.faddr 9) [.s 5],
  ⟨506, false, .store 1, [.s 38, .s 37], none, [], []⟩])
 .skip))
 (.seq (.reg [
 p 39 (.faddr 2) [.s 7],
 p 40 (.load none) [.s 39],
 p 41 .mv [.s 1],
 p 42 (.load (some 10)) [.s 5],
 p 43 (.iaddr 10) [.s 40, .s 41],
  ⟨507, false, .store 10, [.s 43, .s 42], none, [], []⟩])
 (.seq (.reg [
 p 44 (.load (some 3)) [.s 7],
  ⟨508, false, .store 3, [.s 6, .s 44], none, [], []⟩])
 .ret)))))))))
def F128 : AFun where
  n := 48
  res := [.cell 4 (some 2), .tmp 5, .tmp 6, .tmp 7]
  code := (.seq (.reg [
 p 2 (.box 2) [.s 0],
 p 4 (.zero [et, et]) [],
 p 5 .mv [.c zz],
 p 6 .mv [.c ff],
 p 7 .mv [.c ff]])
 (.seq (.reg [
 p 8 (.load (some 2)) [.s 2],
 p 9 (.call 207) [.s 8],
  ⟨500, false, .store 2, [.s 4, .s 9], none, [], []⟩])
 (.seq (.block 0 (.seq (.reg [
 p 11 .mv [.s 1],
 p 12 (.bin .lss) [.s 11, .c (.int .i64 1)],
 p 10 .mv [.s 12]])
 (.cond (.s 10) (.seq (.reg [
 p 13 (.load (some 2)) [.s 4],
  ⟨501, false, .store 2, [.s 4, .s 13], none, [], []⟩,
 p 5 .mv [.c zz],
 p 6 .mv [.c ff],
 p 7 .mv [.c ff]])
 .ret)
 (.seq (.reg [
 p 15 (.faddr 0) [.s 4],
 p 16 (.load none) [.s 15],
 p 17 .len [.s 16],
 p 18 (.bin .gtr) [.s 17, .c zz],
 p 14 .mv [.s 18]])
 (.cond (.s 14) (.seq (.reg [
 p 19 (.faddr 0) [.s 4],
 p 20 (.load none) [.s 19],
 p 21 (.iaddr 1) [.s 20, .c zz],
 p 22 (.load none) [.s 21],
 p 5 .mv [.s 22]])
 (.seq (.reg [
 p 23 (.faddr 0) [.s 4],
 p 24 (.load none) [.s 23],
 p 25 (.slice 1 true false) [.s 24, .c (.int .i64 1)],
 p 26 (.faddr 0) [.s 4],
  ⟨502, false, .store 1, [.s 26, .s 25], none, [], []⟩])
 (.seq (.reg [
 p 27 (.load (some 2)) [.s 4],
 p 28 .mv [.s 5],
  ⟨503, false, .store 2, [.s 4, .s 27], none, [], []⟩,
 p 5 .mv [.s 28],
 p 6 .mv [.c (.bool true)],
 p 7 .mv [.c (.bool true)]])
 .ret)))
 (.seq (.reg [
 p 30 (.faddr 1) [.s 4],
 p 31 (.load none) [.s 30],
 p 32 .mv [.s 1],
 p 33 (.call 209) [.s 31, .s 32],
 p 34 .mv [.s 33],
  ⟨35, true, .faddr 1, [.s 4], (some (34, false)), [], []⟩,
  ⟨36, true, .load none, [.s 35], (some (34, false)), [], []⟩,
  ⟨37, true, .len, [.s 36], (some (34, false)), [], []⟩,
  ⟨38, true, .bin .geq, [.s 37, .c (.int .i64 4)], (some (34, false)), [], []⟩,
 p 39 .pick [.s 34, .c (.bool true), .s 38],
 p 29 .mv [.s 39]])
 (.cond (.s 29) (.seq (.reg [
 p 40 (.load (some 2)) [.s 4],
  ⟨504, false, .store 2, [.s 4, .s 40], none, [], []⟩,
 p 5 .mv [.c zz],
 p 6 .mv [.c ff],
 p 7 .mv [.c ff]])
 .ret)
 .skip)))))))
 (.seq (.reg [
 p 41 (.faddr 1) [.s 4],
 p 42 (.load none) [.s 41],
 p 43 .mv [.s 1],
 p 44 (.buildSl 1 [zz] 1 [0]) [.s 43],
 p 45 (.app 1 8 [zz]) [.s 42, .s 44],
 p 46 (.faddr 1) [.s 4],
  ⟨505, false, .store 1, [.s 46, .s 45], none, [], []⟩])
 (.seq (.reg [
 p 47 (.load (some 2)) [.s 4],
  ⟨506, false, .store 2, [.s 4, .s 47], none, [], []⟩,
 p 5 .mv [.c zz],
 p 6 .mv [.c ff],
 p 7 .mv [.c (.bool true)]])
 .ret)))))
def F129 : AFun where
  n := 49
  res := [.cell 4 (some 2), .tmp 5]
  code := (.seq (.reg [
 p 2 (.box 2) [.s 0],
 p 4 (.zero [(.int .u32 0), et]) [],
 p 5 .mv [.c et]])
 (.seq (.reg [
 p 9 (.faddr 0) [.s 2],
 p 10 (.load none) [.s 9],
 p 11 .mv [.s 1],
 p 12 (.bin .or) [.s 10, .s 11],
 p 13 (.faddr 0) [.s 4],
  ⟨500, false, .store 1, [.s 13, .s 12], none, [], []⟩])
 (.seq (.seq (.reg [
 p 14 (.faddr 1) [.s 2],
 p 15 (.load none) [.s 14],
 p 16 .len [.s 15],
 p 17 .mv [.c zz]])
 (.block 0 (.loop (.seq (.reg [
 p 18 (.bin .lss) [.s 17, .s 16]])
 (.seq (.cond (.s 18) .skip
 (.exit 0))
 (.seq (.block 1 (.seq (.reg [
 p 19 (.iaddr 2) [.s 15, .s 17],
 p 20 (.load (some 2)) [.s 19],
 p 7 (.zero [zz, (.int .u32 0)]) [],
  ⟨501, false, .store 2, [.s 7, .s 20], none, [], []⟩])
 (.seq (.reg [
 p 21 (.faddr 0) [.s 4],
 p 22 (.load none) [.s 21],
 p 23 (.faddr 1) [.s 7],
 p 24 (.load none) [.s 23],
 p 25 (.bin .and) [.s 22, .s 24],
 p 8 .mv [.s 25]])
 (.seq (.seq (.reg [
 p 26 .mv [.s 8],
 p 27 (.bin .eql) [.s 26, .c (.int .u32 0)]])
 (.cond (.s 27) (.seq (.reg [
 p 28 (.faddr 1) [.s 4],
 p 29 (.load none) [.s 28],
 p 30 (.load (some 2)) [.s 7],
 p 31 (.buildSl 2 [zz, (.int .u32 0)] 1 [0]) [.s 30],
 p 32 (.app 2 16 [zz, (.int .u32 0)]) [.s 29, .s 31],
 p 33 (.faddr 1) [.s 4],
  ⟨502, false, .store 1, [.s 33, .s 32], none, [], []⟩])
 (.exit 1))
 .skip))
 (.seq (.reg [
 p 34 (.faddr 0) [.s 4],
 p 35 (.load none) [.s 34],
 p 36 .mv [.s 8],
 p 37 (.bin .andNot) [.s 35, .s 36],
 p 38 (.faddr 0) [.s 4],
  ⟨503, false, .store 1, [.s 38, .s 37], none, [], []⟩])
 (.reg [
 p 39 .mv [.s 5],
 p 40 (.faddr 0) [.s 7],
 p 41 (.load none) [.s 40],
 p 42 .mv [.s 8],
 p 43 (.build [zz, (.int .u32 0)] [(0, 1), (1, 1)]) [.s 41, .s 42],
 p 44 (.buildSl 2 [zz, (.int .u32 0)] 1 [0]) [.s 43],
 p 45 (.app 2 16 [zz, (.int .u32 0)]) [.s 39, .s 44],
 p 5 .mv [.s 45]]))))))
 (.reg [
 p 46 (.bin .add) [.s 17, .c (.int .i64 1)],
 p 17 .mv [.s 46]])))))))
 (.seq (.reg [
 p 47 (.load (some 2)) [.s 4],
 p 48 .mv [.s 5],
  ⟨504, false, .store 2, [.s 4, .s 47], none, [], []⟩,
 p 5 .mv [.s 48]])
 .ret))))
def F130 : AFun where
  n := 55
  res := [.cell 6 (some 2), .tmp 7, .tmp 8]
  code := (.seq (.reg [
 p 3 (.box 2) [.s 0],
 p 4 (.box 1) [.s 1],
 p 6 (.zero [(.int .u32 0), et]) [],
 p 7 .mv [.c (.int .u32 0)],
 p 8 .mv [.c ff]])
 (.seq (.drw [
 p 9 (.faddr 0) [.s 3],
  ⟨10, true, .load none, [.s 9], none, [3], []⟩,
 p 11 (.faddr 1) [.s 3],
  ⟨12, true, .load none, [.s 11], none, [3], []⟩,
 p 13 (.call 210) [.s 12],
  ⟨14, true, .build [(.int .u32 0), et] [(0, 1), (1, 1)], [.s 10, .s 13], none, [13], []⟩,
  ⟨500, false, .store 2, [.s 6, .s 14], none, [6, 13], [6]⟩])
 (.seq (.seq (.reg [
 p 15 (.load none) [.s 4],
 p 16 (.bin .lss) [.s 15, .c (.int .i64 1)],
 p 17 .mv [.s 16],
  ⟨18, true, .mv, [.s 2], (some (17, false)), [], []⟩,
  ⟨19, true, .bin .eql, [.s 18, .c (.int .u32 0)], (some (17, false)), [], []⟩,
 p 20 .pick [.s 17, .c (.bool true), .s 19]])
 (.cond (.s 20) (.seq (.reg [
 p 21 (.load (some 2)) [.s 6],
  ⟨501, false, .store 2, [.s 6, .s 21], none, [], []⟩,
 p 7 .mv [.c (.int .u32 0)],
 p 8 .mv [.c ff]])
 .ret)
 .skip))
 (.seq (.seq (.reg [
 p 22 (.faddr 0) [.s 3],
 p 23 (.load none) [.s 22],
 p 24 .mv [.s 2],
 p 25 (.bin .and) [.s 23, .s 24],
 p 7 .mv [.s 25]])
 (.seq (.reg [
 p 26 .mv [.s 7],
 p 27 (.bin .neq) [.s 26, .c (.int .u32 0)]])
 (.cond (.s 27) (.seq (.reg [
 p 28 (.faddr 0) [.s 6],
 p 29 (.load none) [.s 28],
 p 30 .mv [.s 7],
 p 31 (.bin .andNot) [.s 29, .s 30],
 p 32 (.faddr 0) [.s 6],
  ⟨502, false, .store 1, [.s 32, .s 31], none, [], []⟩])
 (.seq (.reg [
 p 33 (.load (some 2)) [.s 6],
 p 34 .mv [.s 7],
  ⟨503, false, .store 2, [.s 6, .s 33], none, [], []⟩,
 p 7 .mv [.s 34],
 p 8 .mv [.c (.bool true)]])
 .ret))
 .skip)))
 (.seq (.seq (.reg [
 p 35 (.faddr 1) [.s 3],
 p 36 (.load none) [.s 35],
 p 37 .len [.s 36],
 p 38 (.bin .geq) [.s 37, .c (.int .i64 4)],
 p 39 .mv [.s 38],
  ⟨40, true, .faddr 1, [.s 3], (some (39, false)), [], []⟩,
  ⟨41, true, .load none, [.s 40], (some (39, false)), [], []⟩,
  ⟨42, true, .mkfn 212 0, [.s 4], (some (39, false)), [], []⟩,
  ⟨43, true, .call 211, [.s 41, .s 42], (some (39, false)), [], []⟩,
 p 44 .pick [.s 39, .c (.bool true), .s 43]])
 (.cond (.s 44) (.seq (.reg [
 p 45 (.load (some 2)) [.s 6],
  ⟨504, false, .store 2, [.s 6, .s 45], none, [], []⟩,
 p 7 .mv [.c (.int .u32 0)],
 p 8 .mv [.c ff]])
 .ret)
 .skip))
 (.seq (.reg [
 p 46 (.faddr 1) [.s 6],
 p 47 (.load none) [.s 46],
 p 48 (.load none) [.s 4],
 p 49 .mv [.s 2],
 p 50 (.build [zz, (.int .u32 0)] [(0, 1), (1, 1)]) [.s 48, .s 49],
 p 51 (.buildSl 2 [zz, (.int .u32 0)] 1 [0]) [.s 50],
 p 52 (.app 2 16 [zz, (.int .u32 0)]) [.s 47, .s 51],
 p 53 (.faddr 1) [.s 6],
  ⟨505, false, .store 1, [.s 53, .s 52], none, [], []⟩])
 (.seq (.reg [
 p 54 (.load (some 2)) [.s 6],
  ⟨506, false, .store 2, [.s 6, .s 54], none, [], []⟩,
 p 7 .mv [.c (.int .u32 0)],
 p 8 .mv [.c (.bool true)]])
 .ret)))))))
def F131 : AFun where
  n := 50
  res := [.cell 4 (some 3), .tmp 5, .tmp 6]
  code := (.seq (.reg [
 p 2 (.box 3) [.s 0],
 p 3 (.box 2) [.s 1],
 p 4 (.zero [et, et, et]) [],
 p 5 .mv [.c et],
 p 6 .mv [.c ff]])
 (.seq (.reg [
 p 10 (.load (some 3)) [.s 2],
 p 11 (.call 87) [.s 10],
 p 7 (.zero [et, et, et]) [],
  ⟨500, false, .store 3, [.s 7, .s 11], none, [], []⟩])
 (.seq (.reg [
 p 13 (.load (some 3)) [.s 2],
 p 14 (.load (some 2)) [.s 3],
 p 15 (.call 206) [.s 13, .s 14],
 p 12 .mv [.s 15],
 p 16 (.extract 0) [.s 12],
 p 17 (.extract 1) [.s 12],
 p 8 .mv [.s 16],
 p 9 .mv [.s 17]])
 (.seq (.seq (.reg [
 p 18 .mv [.s 9],
 p 19 (.un .not) [.s 18],
 p 20 .mv [.s 19],
  ⟨21, true, .faddr 2, [.s 2], (some (20, false)), [], []⟩,
  ⟨22, true, .load none, [.s 21], (some (20, false)), [], []⟩,
  ⟨23, true, .mv, [.s 8], (some (20, false)), [], []⟩,
  ⟨24, true, .iaddr 10, [.s 22, .s 23], (some (20, false)), [], []⟩,
  ⟨25, true, .faddr 0, [.s 24], (some (20, false)), [], []⟩,
  ⟨26, true, .load none, [.s 25], (some (20, false)), [], []⟩,
  ⟨27, true, .bin .eql, [.s 26, .c (.int .i64 1)], (some (20, false)), [], []⟩,
 p 28 .pick [.s 20, .c (.bool true), .s 27]])
 (.cond (.s 28) (.seq (.reg [
 p 29 (.load (some 3)) [.s 7],
  ⟨501, false, .store 3, [.s 4, .s 29], none, [], []⟩,
 p 5 .mv [.c et],
 p 6 .mv [.c ff]])
 .ret)
 .skip))
 (.seq (.reg [
 p 31 (.faddr 0) [.s 7],
 p 32 (.load (some 2)) [.s 31],
 p 33 (.load (some 2)) [.s 3],
 p 34 (.call 213) [.s 32, .s 33],
 p 30 .mv [.s 34],
 p 35 (.extract 0) [.s 30],
 p 36 (.extract 1) [.s 30],
 p 37 (.faddr 0) [.s 7],
  ⟨502, false, .store 2, [.s 37, .s 35], none, [], []⟩])
 (.seq (.reg [
 p 38 (.faddr 2) [.s 7],
 p 39 (.load none) [.s 38],
 p 40 .mv [.s 8],
 p 41 (.build [zz, zz, zz, zz, zz, et, et, (.int .u32 0), et, (.int .u32 0)] []) [],
 p 42 (.iaddr 10) [.s 39, .s 40],
  ⟨503, false, .store 10, [.s 42, .s 41], none, [], []⟩])
 (.seq (.drw [
  ⟨43, true, .load (some 3), [.s 7], none, [7], []⟩,
 p 44 (.faddr 2) [.s 2],
  ⟨45, true, .load none, [.s 44], none, [2], []⟩,
 p 46 .mv [.s 8],
 p 47 (.iaddr 10) [.s 45, .s 46],
 p 48 (.load (some 10)) [.s 47],
 p 49 (.call 214) [.s 48],
  ⟨504, false, .store 3, [.s 4, .s 43], none, [4, 11, 34], [4]⟩,
 p 5 .mv [.s 49],
 p 6 .mv [.c (.bool true)]])
 .ret)))))))
def F132 : AFun := cloneOf 6 96 [zz, zz, zz, se, se, se]
def F133 : AFun := cloneOf 5 40 [zz, zz, zz, zz, zz]
def F134 : AFun := cloneOf 28 272 [zz, zz, zz, zz, zz, zz, zz, zz, zz, zz, zz, zz, zz, se, ff, zz, zz, zz, zz, zz, zz, zz, zz, zz, se, ff, se, ff]
def F135 : AFun := cloneOf 4 32 [zz, zz, zz, zz]
def F136 : AFun := cloneOf 3 24 [zz, zz, zz]
def F137 : AFun := cloneOf 1 8 [zz]
def F138 : AFun where
  n := 22
  res := [.cell 4 (some 2)]
  code := (.seq (.reg [
 p 2 (.box 2) [.s 0],
 p 4 (.zero [et, et]) []])
 (.seq (.reg [
 p 6 (.load (some 2)) [.s 2],
 p 7 (.call 215) [.s 6],
 p 5 (.zero [et, et]) [],
  ⟨500, false, .store 2, [.s 5, .s 7], none, [], []⟩])
 (.seq (.seq (.reg [
 p 8 .mv [.s 1],
 p 9 (.bin .geq) [.s 8, .c zz],
 p 10 .mv [.s 9],
  ⟨11, true, .mv, [.s 1], (some (10, true)), [], []⟩,
  ⟨12, true, .faddr 0, [.s 5], (some (10, true)), [], []⟩,
  ⟨13, true, .load none, [.s 12], (some (10, true)), [], []⟩,
  ⟨14, true, .len, [.s 13], (some (10, true)), [], []⟩,
  ⟨15, true, .bin .lss, [.s 11, .s 14], (some (10, true)), [], []⟩,
 p 16 .pick [.s 10, .s 15, .c ff]])
 (.cond (.s 16) (.reg [
 p 17 (.faddr 0) [.s 5],
 p 18 (.load none) [.s 17],
 p 19 .mv [.s 1],
 p 20 (.iaddr 1) [.s 18, .s 19],
  ⟨501, false, .store 1, [.s 20, .c zz], none, [], []⟩])
 .skip))
 (.seq (.reg [
 p 21 (.load (some 2)) [.s 5],
  ⟨502, false, .store 2, [.s 4, .s 21], none, [], []⟩])
 .ret))))
def F139 : AFun where
  n := 20
  res := []
  code := (.seq (.reg [
 p 3 (.box 6) [.s 1]])
 (.seq (.reg [
 p 4 .mv [.s 0],
 p 5 .nilck [.s 4],
 p 6 (.faddr 0) [.s 5],
 p 7 (.faddr 0) [.s 6],
 p 8 (.load none) [.s 7],
 p 9 (.faddr 0) [.s 3],
  ⟨500, false, .store 1, [.s 9, .s 8], none, [], []⟩])
 (.drw [
 p 10 .mv [.s 0],
 p 11 .mv [.s 0],
 p 12 .nilck [.s 11],
 p 13 (.faddr 13) [.s 12],
  ⟨14, true, .load none, [.s 13], none, [0], []⟩,
  ⟨15, true, .load (some 6), [.s 3], none, [3], []⟩,
 p 16 (.buildSl 6 [zz, zz, zz, zz, zz, zz] 1 [0]) [.s 15],
  ⟨17, true, .app 6 48 [zz, zz, zz, zz, zz, zz], [.s 14, .s 16], none, [0, 16, 17], [0, 16, 17]⟩,
 p 18 .nilck [.s 10],
 p 19 (.faddr 13) [.s 18],
  ⟨501, false, .store 1, [.s 19, .s 17], none, [0, 16, 17], [0]⟩])))
def F140 : AFun where
  n := 55
  res := []
  code := (.seq (.reg [
 p 3 (.box 28) [.s 1]])
 (.seq (.reg [
 p 7 .mv [.s 0],
 p 8 (.faddr 0) [.s 3],
 p 9 (.load none) [.s 8],
 p 10 (.build [zz, zz, zz, zz, zz, zz] [(1, 1), (2, 1)]) [.c (.int .i64 5), .s 9],
 p 11 (.call 139) [.s 7, .s 10]])
 (.seq (.drw [
 p 12 .mv [.s 0],
 p 13 .nilck [.s 12],
 p 14 (.faddr 0) [.s 13],
 p 15 .mv [.s 0],
 p 16 .nilck [.s 15],
 p 17 (.faddr 0) [.s 16],
  ⟨18, true, .load (some 13), [.s 17], none, [0], []⟩,
  ⟨19, true, .call 146, [.s 18], none, [0, 11, 23, 32, 46, 50], [0, 11, 23, 32, 46, 50]⟩,
 p 20 (.faddr 0) [.s 3],
  ⟨21, true, .load none, [.s 20], none, [3], []⟩,
  ⟨22, true, .call 216, [.s 19, .s 21], none, [19], [19]⟩,
  ⟨23, true, .call 205, [.s 14, .s 22], none, [0, 22, 11, 23, 32, 46, 50], [0, 22, 11, 23, 32, 46, 50]⟩])
 (.seq (.drw [
 p 25 .mv [.s 0],
 p 26 .nilck [.s 25],
 p 27 (.faddr 0) [.s 26],
 p 28 (.faddr 11) [.s 27],
  ⟨29, true, .load (some 2), [.s 28], none, [0], []⟩,
 p 30 (.faddr 0) [.s 3],
  ⟨31, true, .load none, [.s 30], none, [3], []⟩,
  ⟨32, true, .call 217, [.s 29, .s 31], none, [0, 11, 23, 32, 46, 50], [0, 11, 23, 32, 46, 50]⟩,
 p 24 .mv [.s 32],
 p 33 (.extract 0) [.s 24],
 p 34 (.extract 1) [.s 24],
 p 35 (.extract 2) [.s 24],
 p 4 (.zero [et, et]) [],
  ⟨500, false, .store 2, [.s 4, .s 33], none, [4, 32], [4]⟩,
 p 5 .mv [.s 34],
 p 6 .mv [.s 35]])
 (.seq (.reg [
 p 36 .mv [.s 0],
 p 37 (.load (some 2)) [.s 4],
 p 38 .nilck [.s 36],
 p 39 (.faddr 0) [.s 38],
 p 40 (.faddr 11) [.s 39],
  ⟨501, false, .store 2, [.s 40, .s 37], none, [], []⟩])
 (.seq (.seq (.reg [
 p 41 .mv [.s 5]])
 (.cond (.s 41) (.reg [
 p 42 .mv [.s 0],
 p 43 (.faddr 0) [.s 3],
 p 44 (.load none) [.s 43],
 p 45 (.build [zz, zz, zz, zz, zz, zz] [(1, 1), (2, 1)]) [.c (.int .i64 9), .s 44],
 p 46 (.call 139) [.s 42, .s 45]])
 .skip))
 (.seq (.reg [
 p 47 .mv [.s 6]])
 (.cond (.s 47) (.seq (.reg [
 p 48 .mv [.s 0],
 p 49 (.build [zz, zz, zz, zz, zz, zz] [(1, 1)]) [.c (.int .i64 10)],
 p 50 (.call 139) [.s 48, .s 49]])
 (.reg [
 p 51 .mv [.s 0],
 p 52 .nilck [.s 51],
 p 53 (.faddr 0) [.s 52],
 p 54 (.faddr 5) [.s 53],
  ⟨502, false, .store 1, [.s 54, .c (.bool true)], none, [], []⟩]))
 .skip))))))))
def F141 : AFun where
  n := 61
  res := [.cell 2 (some 3), .tmp 3, .tmp 4]
  code := (.seq (.reg [
 p 1 (.box 3) [.s 0],
 p 2 (.zero [et, et, et]) [],
 p 3 .mv [.c et],
 p 4 .mv [.c et]])
 (.seq (.reg [
 p 8 (.load (some 3)) [.s 1],
 p 9 (.call 87) [.s 8],
  ⟨500, false, .store 3, [.s 2, .s 9], none, [], []⟩])
 (.seq (.seq (.reg [
 p 10 (.faddr 2) [.s 1],
 p 11 (.load none) [.s 10],
 p 12 .len [.s 11],
 p 13 .mv [.c zz]])
 (.block 0 (.loop (.seq (.reg [
 p 14 (.bin .lss) [.s 13, .s 12]])
 (.seq (.cond (.s 14) .skip
 (.exit 0))
 (.seq (.block 1 (.seq (.reg [
 p 15 .mv [.s 13],
 p 16 (.iaddr 10) [.s 11, .s 13],
 p 17 (.load (some 10)) [.s 16],
 p 6 (.zero [zz, zz, zz, zz, zz, et, et, (.int .u32 0), et, (.int .u32 0)]) [],
 p 5 .mv [.s 15],
  ⟨501, false, .store 10, [.s 6, .s 17], none, [], []⟩])
 (.seq (.seq (.drw [
  ⟨18, true, .load (some 3), [.s 1], none, [1], []⟩,
 p 19 .mv [.s 5],
 p 20 (.call 88) [.s 18, .s 19],
 p 21 (.un .not) [.s 20],
 p 22 .mv [.s 21],
  ⟨23, true, .faddr 9, [.s 6], (some (22, false)), [], []⟩,
  ⟨24, true, .load none, [.s 23], (some (22, false)), [6], []⟩,
  ⟨25, true, .load (some 10), [.s 6], (some (22, false)), [6], []⟩,
  ⟨26, true, .call 208, [.s 25], (some (22, false)), [], []⟩,
  ⟨27, true, .bin .eql, [.s 24, .s 26], (some (22, false)), [], []⟩,
 p 28 .pick [.s 22, .c (.bool true), .s 27]])
 (.cond (.s 28) (.exit 1)
 .skip))
 (.seq (.reg [
 p 29 (.faddr 0) [.s 6],
 p 30 (.load none) [.s 29],
 p 31 (.faddr 1) [.s 6],
 p 32 (.load (some 2)) [.s 31],
 p 33 (.call 200) [.s 30, .s 32],
 p 7 (.zero [zz, zz, zz, zz, zz, et, et, (.int .u32 0), et, (.int .u32 0)]) [],
  ⟨502, false, .store 10, [.s 7, .s 33], none, [], []⟩])
 (.seq (.seq (.reg [
 p 34 (.faddr 0) [.s 6],
 p 35 (.load none) [.s 34],
 p 36 (.bin .eql) [.s 35, .c (.int .i64 1)]])
 (.cond (.s 36) (.reg [
 p 37 (.faddr 3) [.s 6],
 p 38 (.faddr 0) [.s 37],
 p 39 (.load none) [.s 38],
 p 40 (.faddr 3) [.s 7],
 p 41 (.faddr 0) [.s 40],
  ⟨503, false, .store 1, [.s 41, .s 39], none, [], []⟩])
 .skip))
 (.seq (.drw [
 p 42 (.faddr 2) [.s 2],
  ⟨43, true, .load none, [.s 42], none, [2], []⟩,
 p 44 .mv [.s 5],
  ⟨45, true, .load (some 10), [.s 7], none, [7], []⟩,
  ⟨46, true, .call 199, [.s 45], none, [33], [33]⟩,
  ⟨47, true, .iaddr 10, [.s 43, .s 44], none, [9], []⟩,
  ⟨504, false, .store 10, [.s 47, .s 46], none, [9, 46], [9, 46]⟩])
 (.drw [
 p 48 .mv [.s 3],
 p 49 .mv [.s 5],
 p 50 (.buildSl 1 [zz] 1 [0]) [.s 49],
  ⟨51, true, .app 1 8 [zz], [.s 48, .s 50], none, [50, 51], [50, 51]⟩,
 p 52 .mv [.s 4],
  ⟨53, true, .load (some 10), [.s 6], none, [6], []⟩,
 p 54 (.call 214) [.s 53],
  ⟨55, true, .buildSlL 1 [se] 1 [0], [.s 54], none, [54], [54]⟩,
  ⟨56, true, .app 1 24 [se], [.s 52, .s 55], none, [55, 56], [55, 56]⟩,
 p 3 .mv [.s 51],
 p 4 .mv [.s 56]])))))))
 (.reg [
 p 57 (.bin .add) [.s 13, .c (.int .i64 1)],
 p 13 .mv [.s 57]])))))))
 (.seq (.reg [
 p 58 (.load (some 3)) [.s 2],
 p 59 .mv [.s 3],
 p 60 .mv [.s 4],
  ⟨505, false, .store 3, [.s 2, .s 58], none, [], []⟩,
 p 3 .mv [.s 59],
 p 4 .mv [.s 60]])
 .ret))))
def F142 : AFun where
  n := 19
  res := [.tmp 4]
  code := (.seq (.reg [
 p 4 .mv [.c zz]])
 (.seq (.seq (.reg [
 p 6 .mv [.s 0],
 p 7 .len [.s 6],
 p 8 .mv [.c zz]])
 (.block 0 (.loop (.seq (.reg [
 p 9 (.bin .lss) [.s 8, .s 7]])
 (.seq (.cond (.s 9) .skip
 (.exit 0))
 (.seq (.block 1 (.seq (.reg [
 p 10 .mv [.s 8],
 p 5 .mv [.s 10]])
 (.seq (.reg [
 p 11 .mv [.s 1],
 p 12 .mv [.s 0],
 p 13 .mv [.s 5],
 p 14 (.iaddr 1) [.s 12, .s 13],
 p 15 (.load none) [.s 14],
 p 16 (.bin .eql) [.s 11, .s 15]])
 (.cond (.s 16) (.seq (.reg [
 p 17 .mv [.s 5],
 p 4 .mv [.s 17]])
 .ret)
 .skip))))
 (.reg [
 p 18 (.bin .add) [.s 8, .c (.int .i64 1)],
 p 8 .mv [.s 18]])))))))
 (.seq (.reg [
 p 4 .mv [.c (.int .i64 (-1))]])
 .ret)))
def F143 : AFun where
  n := 22
  res := [.tmp 2]
  code := (.seq (.reg [
 p 1 (.box 3) [.s 0],
 p 2 .mv [.c et]])
 (.seq (.seq (.reg [
 p 5 (.faddr 2) [.s 1],
 p 6 (.load none) [.s 5],
 p 7 .len [.s 6],
 p 8 .mv [.c zz]])
 (.block 0 (.loop (.seq (.reg [
 p 9 (.bin .lss) [.s 8, .s 7]])
 (.seq (.cond (.s 9) .skip
 (.exit 0))
 (.seq (.block 1 (.seq (.reg [
 p 10 .mv [.s 8],
 p 11 (.iaddr 10) [.s 6, .s 8],
 p 12 (.load (some 10)) [.s 11],
 p 4 (.zero [zz, zz, zz, zz, zz, et, et, (.int .u32 0), et, (.int .u32 0)]) [],
 p 3 .mv [.s 10],
  ⟨500, false, .store 10, [.s 4, .s 12], none, [], []⟩])
 (.seq (.reg [
 p 13 (.faddr 0) [.s 4],
 p 14 (.load none) [.s 13],
 p 15 (.bin .eql) [.s 14, .c (.int .i64 1)]])
 (.cond (.s 15) (.reg [
 p 16 .mv [.s 2],
 p 17 .mv [.s 3],
 p 18 (.buildSl 1 [zz] 1 [0]) [.s 17],
 p 19 (.app 1 8 [zz]) [.s 16, .s 18],
 p 2 .mv [.s 19]])
 .skip))))
 (.reg [
 p 20 (.bin .add) [.s 8, .c (.int .i64 1)],
 p 8 .mv [.s 20]])))))))
 (.seq (.reg [
 p 21 .mv [.s 2],
 p 2 .mv [.s 21]])
 .ret)))
def F144 : AFun where
  n := 13
  res := [.cell 4 (some 28)]
  code := (.seq (.reg [
 p 2 (.box 28) [.s 0],
 p 3 (.box 1) [.s 1],
 p 4 (.zero [zz, zz, zz, zz, zz, zz, zz, zz, zz, zz, zz, zz, zz, et, ff, zz, zz, zz, zz, zz, zz, zz, zz, zz, et, ff, et, ff]) []])
 (.seq (.reg [
 p 5 (.load (some 28)) [.s 2],
 p 6 (.call 218) [.s 5],
  ⟨500, false, .store 28, [.s 2, .s 6], none, [], []⟩])
 (.seq (.reg [
 p 7 (.faddr 26) [.s 2],
 p 8 (.load none) [.s 7],
 p 9 (.mkfn 220 0) [.s 3],
 p 10 (.call 219) [.s 8, .s 9],
 p 11 (.faddr 26) [.s 2],
  ⟨501, false, .store 1, [.s 11, .s 10], none, [], []⟩])
 (.seq (.reg [
 p 12 (.load (some 28)) [.s 2],
  ⟨502, false, .store 28, [.s 4, .s 12], none, [], []⟩])
 .ret))))
def F145 : AFun where
  n := 63
  res := [.tmp 6, .tmp 7]
  code := (.seq (.reg [
 p 6 .mv [.c zz],
 p 7 .mv [.c ff]])
 (.seq (.reg [
 p 8 .mv [.c et]])
 (.seq (.seq (.reg [
 p 14 .mv [.s 0],
 p 15 .len [.s 14],
 p 16 .mv [.c zz]])
 (.block 0 (.loop (.seq (.reg [
 p 17 (.bin .lss) [.s 16, .s 15]])
 (.seq (.cond (.s 17) .skip
 (.exit 0))
 (.seq (.block 1 (.seq (.reg [
 p 18 (.iaddr 28) [.s 14, .s 16],
 p 19 (.load (some 28)) [.s 18],
 p 10 (.zero [zz, zz, zz, zz, zz, zz, zz, zz, zz, zz, zz, zz, zz, et, ff, zz, zz, zz, zz, zz, zz, zz, zz, zz, et, ff, et, ff]) [],
  ⟨500, false, .store 28, [.s 10, .s 19], none, [], []⟩])
 (.reg [
 p 20 .mv [.s 8],
 p 21 (.load (some 28)) [.s 10],
 p 22 .mv [.s 1],
 p 23 .mv [.s 2],
 p 24 (.call 221) [.s 21, .s 22, .s 23],
 p 25 (.buildSl 3 [zz, zz, zz] 1 [0]) [.s 24],
 p 26 (.app 3 24 [zz, zz, zz]) [.s 20, .s 25],
 p 8 .mv [.s 26]])))
 (.reg [
 p 27 (.bin .add) [.s 16, .c (.int .i64 1)],
 p 16 .mv [.s 27]])))))))
 (.seq (.seq (.reg [
 p 11 .mv [.c zz]])
 (.block 2 (.loop (.seq (.seq (.reg [
 p 28 .mv [.s 11],
 p 29 .mv [.s 8],
 p 30 .len [.s 29],
 p 31 (.bin .lss) [.s 28, .s 30]])
 (.cond (.s 31) .skip
 (.exit 2)))
 (.seq (.block 3 (.seq (.reg [
 p 34 .mv [.s 8],
 p 35 .mv [.s 11],
 p 36 .mv [.s 11],
 p 37 (.bin .add) [.s 36, .c (.int .i64 64)],
 p 38 .mv [.s 8],
 p 39 .len [.s 38],
 p 40 .least [.s 37, .s 39],
 p 41 (.slice 3 true true) [.s 34, .s 35, .s 40],
 p 12 .mv [.s 41]])
 (.seq (.reg [
 p 42 .mv [.s 11],
 p 43 .mv [.s 12],
 p 44 (.call 222) [.s 43],
 p 45 (.bin .add) [.s 42, .s 44],
 p 13 .mv [.s 45]])
 (.seq (.drw [
 p 46 .mv [.s 7],
 p 47 (.un .not) [.s 46],
 p 48 .mv [.s 47],
  ⟨49, true, .mv, [.s 8], (some (48, false)), [], []⟩,
  ⟨50, true, .mv, [.s 13], (some (48, false)), [], []⟩,
  ⟨51, true, .iaddr 3, [.s 49, .s 50], (some (48, false)), [25, 26], []⟩,
  ⟨52, true, .load (some 3), [.s 51], (some (48, false)), [25, 26], []⟩,
  ⟨53, true, .mv, [.s 8], (some (48, false)), [], []⟩,
  ⟨54, true, .mv, [.s 6], (some (48, false)), [], []⟩,
  ⟨55, true, .iaddr 3, [.s 53, .s 54], (some (48, false)), [25, 26], []⟩,
  ⟨56, true, .load (some 3), [.s 55], (some (48, false)), [25, 26], []⟩,
  ⟨57, true, .call 223, [.s 52, .s 56], (some (48, false)), [], []⟩,
  ⟨58, true, .bin .lss, [.s 57, .c zz], (some (48, false)), [], []⟩,
 p 59 .pick [.s 48, .c (.bool true), .s 58]])
 (.cond (.s 59) (.reg [
 p 60 .mv [.s 13],
 p 6 .mv [.s 60],
 p 7 .mv [.c (.bool true)]])
 .skip)))))
 (.reg [
 p 32 .mv [.s 11],
 p 33 (.bin .add) [.s 32, .c (.int .i64 64)],
 p 11 .mv [.s 33]]))))))
 (.seq (.reg [
 p 61 .mv [.s 6],
 p 62 .mv [.s 7],
 p 6 .mv [.s 61],
 p 7 .mv [.s 62]])
 .ret)))))
def F146 : AFun where
  n := 25
  res := [.tmp 2]
  code := (.seq (.reg [
 p 1 (.box 13) [.s 0],
 p 2 .mv [.c et]])
 (.seq (.seq (.reg [
 p 5 (.faddr 8) [.s 1],
 p 6 (.load (some 3)) [.s 5],
 p 7 (.call 143) [.s 6],
 p 8 .len [.s 7],
 p 9 .mv [.c zz]])
 (.block 0 (.loop (.seq (.reg [
 p 10 (.bin .lss) [.s 9, .s 8]])
 (.seq (.cond (.s 10) .skip
 (.exit 0))
 (.seq (.block 1 (.seq (.reg [
 p 11 (.iaddr 1) [.s 7, .s 9],
 p 12 (.load none) [.s 11],
 p 4 .mv [.s 12]])
 (.reg [
 p 13 .mv [.s 2],
 p 14 (.faddr 8) [.s 1],
 p 15 (.faddr 2) [.s 14],
 p 16 (.load none) [.s 15],
 p 17 .mv [.s 4],
 p 18 (.iaddr 10) [.s 16, .s 17],
 p 19 (.faddr 3) [.s 18],
 p 20 (.load (some 2)) [.s 19],
 p 21 (.buildSl 2 [zz, zz] 1 [0]) [.s 20],
 p 22 (.app 2 16 [zz, zz]) [.s 13, .s 21],
 p 2 .mv [.s 22]])))
 (.reg [
 p 23 (.bin .add) [.s 9, .c (.int .i64 1)],
 p 9 .mv [.s 23]])))))))
 (.seq (.reg [
 p 24 .mv [.s 2],
 p 2 .mv [.s 24]])
 .ret)))
def F147 : AFun where
  n := 92
  res := [.tmp 4]
  code := (.seq (.reg [
 p 4 .mv [.c ff]])
 (.seq (.drw [
 p 13 .mv [.s 0],
 p 14 .nilck [.s 13],
 p 15 (.faddr 0) [.s 14],
 p 16 (.faddr 2) [.s 15],
  ⟨17, true, .load none, [.s 16], none, [0], []⟩,
 p 18 .mv [.s 1],
 p 19 .nilck [.s 18],
 p 20 (.faddr 0) [.s 19],
  ⟨21, true, .load none, [.s 20], none, [1], []⟩,
  ⟨22, true, .iaddr 6, [.s 17, .s 21], none, [0, 59, 81, 90], []⟩,
  ⟨23, true, .load (some 6), [.s 22], none, [0, 59, 81, 90], []⟩,
 p 24 .mv [.s 1],
 p 25 .nilck [.s 24],
  ⟨26, true, .load (some 28), [.s 25], none, [1], []⟩,
  ⟨27, true, .call 224, [.s 23, .s 26], none, [0, 59, 81, 90, 1, 27], [0, 59, 81, 90, 1, 27]⟩,
 p 12 .mv [.s 27],
 p 28 (.extract 0) [.s 12],
 p 29 (.extract 1) [.s 12],
 p 30 (.extract 2) [.s 12],
 p 5 (.zero [zz, zz, zz, zz, zz, zz, zz, zz, zz, zz, zz, zz, zz, et, ff, zz, zz, zz, zz, zz, zz, zz, zz, zz, et, ff, et, ff]) [],
 p 6 (.zero [zz, zz, zz, zz]) [],
  ⟨500, false, .store 28, [.s 5, .s 28], none, [5, 27], [5]⟩,
  ⟨501, false, .store 4, [.s 6, .s 29], none, [6], [6]⟩,
 p 7 .mv [.s 30]])
 (.seq (.seq (.reg [
 p 31 .mv [.s 7],
 p 32 (.un .not) [.s 31]])
 (.cond (.s 32) (.seq (.reg [
 p 4 .mv [.c ff]])
 .ret)
 .skip))
 (.seq (.reg [
 p 33 .mv [.s 1],
 p 34 (.load (some 28)) [.s 5],
 p 35 .nilck [.s 33],
  ⟨502, false, .store 28, [.s 35, .s 34], none, [], []⟩])
 (.seq (.seq (.reg [
 p 36 (.faddr 0) [.s 6],
 p 37 (.load none) [.s 36]])
 (.block 0 (.seq (.reg [
 p 39 (.bin .eql) [.s 37, .c (.int .i64 9)],
 p 38 .mv [.s 39]])
 (.cond (.s 38) (.seq (.drw [
 p 41 .mv [.s 0],
 p 42 .nilck [.s 41],
 p 43 (.faddr 0) [.s 42],
  ⟨44, true, .load (some 13), [.s 43], none, [0], []⟩,
  ⟨45, true, .call 146, [.s 44], none, [0, 59, 81, 90], [0, 59, 81, 90]⟩,
 p 46 (.faddr 1) [.s 6],
  ⟨47, true, .load none, [.s 46], none, [6], []⟩,
 p 48 .mv [.s 1],
 p 49 .nilck [.s 48],
 p 50 (.faddr 0) [.s 49],
  ⟨51, true, .load none, [.s 50], none, [1], []⟩,
  ⟨52, true, .call 225, [.s 45, .s 47, .s 51], none, [45], [45]⟩,
 p 40 .mv [.s 52],
 p 53 (.extract 0) [.s 40],
 p 54 (.extract 1) [.s 40],
 p 8 .mv [.s 53],
 p 9 .mv [.s 54]])
 (.reg [
 p 55 .mv [.s 0],
 p 56 .nilck [.s 55],
 p 57 (.faddr 0) [.s 56],
 p 58 .mv [.s 8],
 p 59 (.call 205) [.s 57, .s 58]]))
 (.seq (.reg [
 p 61 (.bin .eql) [.s 37, .c (.int .i64 10)],
 p 60 .mv [.s 61]])
 (.cond (.s 60) (.seq (.drw [
 p 63 .mv [.s 0],
 p 64 .nilck [.s 63],
 p 65 (.faddr 0) [.s 64],
  ⟨66, true, .load (some 13), [.s 65], none, [0], []⟩,
  ⟨67, true, .call 146, [.s 66], none, [0, 59, 81, 90], [0, 59, 81, 90]⟩,
 p 68 (.faddr 1) [.s 6],
  ⟨69, true, .load none, [.s 68], none, [6], []⟩,
 p 70 .mv [.s 1],
 p 71 .nilck [.s 70],
 p 72 (.faddr 0) [.s 71],
  ⟨73, true, .load none, [.s 72], none, [1], []⟩,
  ⟨74, true, .call 226, [.s 67, .s 69, .s 73], none, [67], [67]⟩,
 p 62 .mv [.s 74],
 p 75 (.extract 0) [.s 62],
 p 76 (.extract 1) [.s 62],
 p 10 .mv [.s 75],
 p 11 .mv [.s 76]])
 (.reg [
 p 77 .mv [.s 0],
 p 78 .nilck [.s 77],
 p 79 (.faddr 0) [.s 78],
 p 80 .mv [.s 10],
 p 81 (.call 205) [.s 79, .s 80]]))
 .skip))))))
 (.seq (.reg [
 p 82 .mv [.s 1],
 p 83 .nilck [.s 82],
 p 84 (.faddr 4) [.s 83],
 p 85 (.faddr 10) [.s 84],
 p 86 (.load none) [.s 85],
 p 87 .mv [.s 86],
  ⟨88, true, .mv, [.s 0], (some (87, true)), [], []⟩,
  ⟨89, true, .mv, [.s 1], (some (87, true)), [], []⟩,
  ⟨90, true, .call 227, [.s 88, .s 89], (some (87, true)), [], []⟩,
 p 91 .pick [.s 87, .s 90, .c ff],
 p 4 .mv [.s 91]])
 .ret))))))
def F148 : AFun where
  n := 50
  res := [.tmp 4]
  code := (.seq (.reg [
 p 4 .mv [.c ff]])
 (.seq (.drw [
 p 9 .mv [.s 0],
 p 10 .nilck [.s 9],
 p 11 (.faddr 0) [.s 10],
 p 12 (.faddr 2) [.s 11],
  ⟨13, true, .load none, [.s 12], none, [0], []⟩,
 p 14 .mv [.s 1],
 p 15 .nilck [.s 14],
 p 16 (.faddr 0) [.s 15],
  ⟨17, true, .load none, [.s 16], none, [1], []⟩,
  ⟨18, true, .iaddr 6, [.s 13, .s 17], none, [0, 39, 47], []⟩,
  ⟨19, true, .load (some 6), [.s 18], none, [0, 39, 47], []⟩,
 p 20 .mv [.s 1],
 p 21 .nilck [.s 20],
  ⟨22, true, .load (some 28), [.s 21], none, [1], []⟩,
 p 23 .mv [.s 0],
 p 24 .nilck [.s 23],
 p 25 (.faddr 0) [.s 24],
  ⟨26, true, .load (some 13), [.s 25], none, [0], []⟩,
  ⟨27, true, .call 146, [.s 26], none, [0, 39, 47], []⟩,
  ⟨28, true, .call 228, [.s 19, .s 22, .s 27], none, [0, 39, 47, 1, 28, 27], [0, 39, 47, 1, 28, 27]⟩,
 p 8 .mv [.s 28],
 p 29 (.extract 0) [.s 8],
 p 30 (.extract 1) [.s 8],
 p 31 (.extract 2) [.s 8],
 p 5 (.zero [zz, zz, zz, zz, zz, zz, zz, zz, zz, zz, zz, zz, zz, et, ff, zz, zz, zz, zz, zz, zz, zz, zz, zz, et, ff, et, ff]) [],
  ⟨500, false, .store 28, [.s 5, .s 29], none, [5, 28], [5]⟩,
 p 6 .mv [.s 30],
 p 7 .mv [.s 31]])
 (.seq (.reg [
 p 32 .mv [.s 1],
 p 33 (.load (some 28)) [.s 5],
 p 34 .nilck [.s 32],
  ⟨501, false, .store 28, [.s 34, .s 33], none, [], []⟩])
 (.seq (.reg [
 p 35 .mv [.s 0],
 p 36 .nilck [.s 35],
 p 37 (.faddr 0) [.s 36],
 p 38 .mv [.s 6],
 p 39 (.call 205) [.s 37, .s 38]])
 (.seq (.reg [
 p 40 .mv [.s 0],
 p 41 .mv [.s 7],
 p 42 .mv [.s 1],
 p 43 .nilck [.s 42],
 p 44 (.faddr 0) [.s 43],
 p 45 (.load none) [.s 44],
 p 46 (.build [zz, zz, zz, zz, zz, zz] [(1, 1), (2, 1)]) [.s 41, .s 45],
 p 47 (.call 139) [.s 40, .s 46]])
 (.seq (.reg [
 p 48 .mv [.s 7],
 p 49 (.bin .eql) [.s 48, .c (.int .i64 13)],
 p 4 .mv [.s 49]])
 .ret))))))
def F149 : AFun := cloneOf 1 1 [ff]
def F150 : AFun where
  n := 20
  res := [.cell 2 (some 10)]
  code := (.seq (.reg [
 p 1 (.box 10) [.s 0],
 p 2 (.zero [zz, zz, zz, zz, zz, et, et, (.int .u32 0), et, (.int .u32 0)]) []])
 (.seq (.drw [
 p 3 (.faddr 5) [.s 1],
 p 4 (.faddr 0) [.s 3],
  ⟨5, true, .load none, [.s 4], none, [1], []⟩,
  ⟨6, true, .call 229, [.s 5], none, [6, 10, 16], [6, 10, 16]⟩,
 p 7 (.faddr 5) [.s 1],
 p 8 (.faddr 1) [.s 7],
  ⟨9, true, .load none, [.s 8], none, [1], []⟩,
  ⟨10, true, .call 137, [.s 9], none, [6, 10, 16], [6, 10, 16]⟩,
  ⟨11, true, .build [et, et] [(0, 1), (1, 1)], [.s 6, .s 10], none, [6, 10], []⟩,
 p 12 (.faddr 5) [.s 1],
  ⟨500, false, .store 2, [.s 12, .s 11], none, [1, 6, 10], [1]⟩])
 (.seq (.reg [
 p 13 (.faddr 7) [.s 1],
 p 14 (.faddr 1) [.s 13],
 p 15 (.load none) [.s 14],
 p 16 (.call 210) [.s 15],
 p 17 (.faddr 7) [.s 1],
 p 18 (.faddr 1) [.s 17],
  ⟨501, false, .store 1, [.s 18, .s 16], none, [], []⟩])
 (.seq (.reg [
 p 19 (.load (some 10)) [.s 1],
  ⟨502, false, .store 10, [.s 2, .s 19], none, [], []⟩])
 .ret))))
def F151 : AFun where
  n := 49
  res := [.tmp 6, .tmp 7]
  code := (.seq (.reg [
 p 6 .mv [.c zz],
 p 7 .mv [.c ff]])
 (.seq (.reg [
 p 12 .mv [.s 0],
 p 13 .len [.s 12],
 p 8 .mv [.s 13]])
 (.seq (.reg [
 p 14 .mv [.s 8],
 p 9 .mv [.c zz],
 p 10 .mv [.s 14]])
 (.seq (.block 0 (.loop (.seq (.seq (.reg [
 p 15 .mv [.s 9],
 p 16 .mv [.s 10],
 p 17 (.bin .lss) [.s 15, .s 16]])
 (.cond (.s 17) .skip
 (.exit 0)))
 (.block 1 (.seq (.reg [
 p 18 .mv [.s 9],
 p 19 .mv [.s 10],
 p 20 (.bin .add) [.s 18, .s 19],
 p 21 (.conv .u64) [.s 20],
 p 22 (.bin .shr) [.s 21, .c (.int .u64 1)],
 p 23 (.conv .i64) [.s 22],
 p 11 .mv [.s 23]])
 (.seq (.reg [
 p 24 .mv [.s 2],
 p 25 .mv [.s 0],
 p 26 .mv [.s 11],
 p 27 (.iaddr 28) [.s 25, .s 26],
 p 28 (.load (some 28)) [.s 27],
 p 29 .mv [.s 1],
 p 30 .callv [.s 24, .s 28, .s 29],
 p 31 (.bin .lss) [.s 30, .c zz]])
 (.cond (.s 31) (.reg [
 p 32 .mv [.s 11],
 p 33 (.bin .add) [.s 32, .c (.int .i64 1)],
 p 9 .mv [.s 33]])
 (.reg [
 p 34 .mv [.s 11],
 p 10 .mv [.s 34]]))))))))
 (.seq (.reg [
 p 35 .mv [.s 9],
 p 36 .mv [.s 9],
 p 37 .mv [.s 8],
 p 38 (.bin .lss) [.s 36, .s 37],
 p 39 .mv [.s 38],
  ⟨40, true, .mv, [.s 2], (some (39, true)), [], []⟩,
  ⟨41, true, .mv, [.s 0], (some (39, true)), [], []⟩,
  ⟨42, true, .mv, [.s 9], (some (39, true)), [], []⟩,
  ⟨43, true, .iaddr 28, [.s 41, .s 42], (some (39, true)), [], []⟩,
  ⟨44, true, .load (some 28), [.s 43], (some (39, true)), [], []⟩,
  ⟨45, true, .mv, [.s 1], (some (39, true)), [], []⟩,
  ⟨46, true, .callv, [.s 40, .s 44, .s 45], (some (39, true)), [], []⟩,
  ⟨47, true, .bin .eql, [.s 46, .c zz], (some (39, true)), [], []⟩,
 p 48 .pick [.s 39, .s 47, .c ff],
 p 6 .mv [.s 35],
 p 7 .mv [.s 48]])
 .ret)))))
def F152 : AFun where
  n := 9
  res := [.tmp 4]
  code := (.seq (.reg [
 p 2 (.box 28) [.s 0],
 p 4 .mv [.c zz]])
 (.seq (.reg [
 p 5 (.faddr 0) [.s 2],
 p 6 (.load none) [.s 5],
 p 7 .mv [.s 1],
 p 8 (.bin .sub) [.s 6, .s 7],
 p 4 .mv [.s 8]])
 .ret))
def F154 : AFun where
  n := 10
  res := []
  code := (.reg [
 p 4 .mv [.s 0],
 p 5 .mv [.s 0],
 p 6 .len [.s 5],
 p 7 .mv [.s 1],
 p 8 (.bin .sub) [.s 6, .s 7],
 p 9 (.call 230) [.s 4, .s 8]])
def F155 : AFun where
  n := 7
  res := [.cell 2 (some 11)]
  code := (.seq (.reg [
 p 2 (.zero [zz, zz, zz, zz, zz, zz, zz, zz, zz, et, ff]) []])
 (.seq (.reg [
 p 3 .mv [.s 0],
 p 4 (.faddr 1) [.s 2],
 p 5 (.iaddrA 8 1) [.s 4, .c zz],
  ⟨500, false, .store 1, [.s 5, .s 3], none, [], []⟩])
 (.seq (.reg [
 p 6 (.load (some 11)) [.s 2],
  ⟨501, false, .store 11, [.s 2, .s 6], none, [], []⟩])
 .ret)))
def F191 : AFun where
  n := 129
  res := [.tmp 2]
  code := (.seq (.reg [
 p 1 (.box 4) [.s 0],
 p 2 .mv [.c ff]])
 (.seq (.seq (.reg [
 p 3 (.faddr 0) [.s 1],
 p 4 (.load none) [.s 3]])
 (.block 0 (.seq (.seq (.reg [
 p 6 (.bin .eql) [.s 4, .c zz],
 p 5 .mv [.s 6]])
 (.cond (.s 5) .skip
 (.reg [
 p 7 (.bin .eql) [.s 4, .c (.int .i64 11)],
 p 5 .mv [.s 7]])))
 (.cond (.s 5) (.seq (.reg [
 p 8 (.faddr 1) [.s 1],
 p 9 (.load none) [.s 8],
 p 10 (.bin .eql) [.s 9, .c zz],
 p 11 .mv [.s 10],
  ⟨12, true, .faddr 2, [.s 1], (some (11, true)), [], []⟩,
  ⟨13, true, .load none, [.s 12], (some (11, true)), [], []⟩,
  ⟨14, true, .bin .eql, [.s 13, .c zz], (some (11, true)), [], []⟩,
 p 15 .pick [.s 11, .s 14, .c ff],
 p 16 .mv [.s 15],
  ⟨17, true, .faddr 3, [.s 1], (some (16, true)), [], []⟩,
  ⟨18, true, .load none, [.s 17], (some (16, true)), [], []⟩,
  ⟨19, true, .bin .eql, [.s 18, .c zz], (some (16, true)), [], []⟩,
 p 20 .pick [.s 16, .s 19, .c ff],
 p 2 .mv [.s 20]])
 .ret)
 (.seq (.reg [
 p 22 (.bin .eql) [.s 4, .c (.int .i64 1)],
 p 21 .mv [.s 22]])
 (.cond (.s 21) (.seq (.reg [
 p 23 (.faddr 1) [.s 1],
 p 24 (.load none) [.s 23],
 p 25 (.call 246) [.s 24],
 p 26 .mv [.s 25],
  ⟨27, true, .faddr 2, [.s 1], (some (26, true)), [], []⟩,
  ⟨28, true, .load none, [.s 27], (some (26, true)), [], []⟩,
  ⟨29, true, .bin .eql, [.s 28, .c zz], (some (26, true)), [], []⟩,
 p 30 .pick [.s 26, .s 29, .c ff],
 p 31 .mv [.s 30],
  ⟨32, true, .faddr 3, [.s 1], (some (31, true)), [], []⟩,
  ⟨33, true, .load none, [.s 32], (some (31, true)), [], []⟩,
  ⟨34, true, .call 247, [.s 33, .c (.int .i64 (-2147483648)), .c (.int .i64 2147483647)], (some (31, true)), [], []⟩,
 p 35 .pick [.s 31, .s 34, .c ff],
 p 2 .mv [.s 35]])
 .ret)
 (.seq (.seq (.reg [
 p 37 (.bin .eql) [.s 4, .c (.int .i64 2)],
 p 36 .mv [.s 37]])
 (.cond (.s 36) .skip
 (.seq (.reg [
 p 38 (.bin .eql) [.s 4, .c (.int .i64 3)],
 p 36 .mv [.s 38]])
 (.cond (.s 36) .skip
 (.reg [
 p 39 (.bin .eql) [.s 4, .c (.int .i64 4)],
 p 36 .mv [.s 39]])))))
 (.cond (.s 36) (.seq (.reg [
 p 40 (.faddr 1) [.s 1],
 p 41 (.load none) [.s 40],
 p 42 (.call 246) [.s 41],
 p 43 .mv [.s 42],
  ⟨44, true, .faddr 2, [.s 1], (some (43, true)), [], []⟩,
  ⟨45, true, .load none, [.s 44], (some (43, true)), [], []⟩,
  ⟨46, true, .call 246, [.s 45], (some (43, true)), [], []⟩,
 p 47 .pick [.s 43, .s 46, .c ff],
 p 48 .mv [.s 47],
  ⟨49, true, .faddr 3, [.s 1], (some (48, true)), [], []⟩,
  ⟨50, true, .load none, [.s 49], (some (48, true)), [], []⟩,
  ⟨51, true, .bin .eql, [.s 50, .c zz], (some (48, true)), [], []⟩,
 p 52 .pick [.s 48, .s 51, .c ff],
 p 2 .mv [.s 52]])
 .ret)
 (.seq (.reg [
 p 54 (.bin .eql) [.s 4, .c (.int .i64 5)],
 p 53 .mv [.s 54]])
 (.cond (.s 53) (.seq (.reg [
 p 55 (.faddr 1) [.s 1],
 p 56 (.load none) [.s 55],
 p 57 (.call 246) [.s 56],
 p 58 .mv [.s 57],
  ⟨59, true, .faddr 2, [.s 1], (some (58, true)), [], []⟩,
  ⟨60, true, .load none, [.s 59], (some (58, true)), [], []⟩,
  ⟨61, true, .bin .eql, [.s 60, .c zz], (some (58, true)), [], []⟩,
 p 62 .pick [.s 58, .s 61, .c ff],
 p 63 .mv [.s 62],
  ⟨64, true, .faddr 3, [.s 1], (some (63, true)), [], []⟩,
  ⟨65, true, .load none, [.s 64], (some (63, true)), [], []⟩,
  ⟨66, true, .call 247, [.s 65, .c (.int .i64 (-63)), .c (.int .i64 63)], (some (63, true)), [], []⟩,
 p 67 .pick [.s 63, .s 66, .c ff],
 p 2 .mv [.s 67]])
 .ret)
 (.seq (.reg [
 p 69 (.bin .eql) [.s 4, .c (.int .i64 6)],
 p 68 .mv [.s 69]])
 (.cond (.s 68) (.seq (.reg [
 p 70 (.faddr 1) [.s 1],
 p 71 (.load none) [.s 70],
 p 72 (.call 246) [.s 71],
 p 73 .mv [.s 72],
  ⟨74, true, .faddr 2, [.s 1], (some (73, true)), [], []⟩,
  ⟨75, true, .load none, [.s 74], (some (73, true)), [], []⟩,
  ⟨76, true, .bin .eql, [.s 75, .c zz], (some (73, true)), [], []⟩,
 p 77 .pick [.s 73, .s 76, .c ff],
 p 78 .mv [.s 77],
  ⟨79, true, .faddr 3, [.s 1], (some (78, true)), [], []⟩,
  ⟨80, true, .load none, [.s 79], (some (78, true)), [], []⟩,
  ⟨81, true, .call 247, [.s 80, .c (.int .i64 1), .c (.int .i64 64)], (some (78, true)), [], []⟩,
 p 82 .pick [.s 78, .s 81, .c ff],
 p 2 .mv [.s 82]])
 .ret)
 (.seq (.reg [
 p 84 (.bin .eql) [.s 4, .c (.int .i64 7)],
 p 83 .mv [.s 84]])
 (.cond (.s 83) (.seq (.reg [
 p 85 (.faddr 1) [.s 1],
 p 86 (.load none) [.s 85],
 p 87 (.call 246) [.s 86],
 p 88 .mv [.s 87],
  ⟨89, true, .faddr 2, [.s 1], (some (88, true)), [], []⟩,
  ⟨90, true, .load none, [.s 89], (some (88, true)), [], []⟩,
  ⟨91, true, .bin .eql, [.s 90, .c zz], (some (88, true)), [], []⟩,
 p 92 .pick [.s 88, .s 91, .c ff],
 p 93 .mv [.s 92],
  ⟨94, true, .faddr 3, [.s 1], (some (93, true)), [], []⟩,
  ⟨95, true, .load none, [.s 94], (some (93, true)), [], []⟩,
  ⟨96, true, .call 247, [.s 95, .c (.int .i64 1), .c (.int .i64 24)], (some (93, true)), [], []⟩,
 p 97 .pick [.s 93, .s 96, .c ff],
 p 2 .mv [.s 97]])
 .ret)
 (.seq (.reg [
 p 99 (.bin .eql) [.s 4, .c (.int .i64 8)],
 p 98 .mv [.s 99]])
 (.cond (.s 98) (.seq (.reg [
 p 100 (.faddr 1) [.s 1],
 p 101 (.load none) [.s 100],
 p 102 (.bin .eql) [.s 101, .c zz],
 p 103 .mv [.s 102],
  ⟨104, true, .faddr 2, [.s 1], (some (103, true)), [], []⟩,
  ⟨105, true, .load none, [.s 104], (some (103, true)), [], []⟩,
  ⟨106, true, .call 247, [.s 105, .c (.int .i64 1), .c (.int .i64 24)], (some (103, true)), [], []⟩,
 p 107 .pick [.s 103, .s 106, .c ff],
 p 108 .mv [.s 107],
  ⟨109, true, .faddr 3, [.s 1], (some (108, true)), [], []⟩,
  ⟨110, true, .load none, [.s 109], (some (108, true)), [], []⟩,
  ⟨111, true, .call 247, [.s 110, .c (.int .i64 1), .c (.int .i64 20)], (some (108, true)), [], []⟩,
 p 112 .pick [.s 108, .s 111, .c ff],
 p 2 .mv [.s 112]])
 .ret)
 (.seq (.seq (.reg [
 p 114 (.bin .eql) [.s 4, .c (.int .i64 9)],
 p 113 .mv [.s 114]])
 (.cond (.s 113) .skip
 (.reg [
 p 115 (.bin .eql) [.s 4, .c (.int .i64 10)],
 p 113 .mv [.s 115]])))
 (.cond (.s 113) (.seq (.reg [
 p 116 (.faddr 1) [.s 1],
 p 117 (.load none) [.s 116],
 p 118 (.call 247) [.s 117, .c zz, .c (.int .i64 3)],
 p 119 .mv [.s 118],
  ⟨120, true, .faddr 2, [.s 1], (some (119, true)), [], []⟩,
  ⟨121, true, .load none, [.s 120], (some (119, true)), [], []⟩,
  ⟨122, true, .bin .eql, [.s 121, .c zz], (some (119, true)), [], []⟩,
 p 123 .pick [.s 119, .s 122, .c ff],
 p 124 .mv [.s 123],
  ⟨125, true, .faddr 3, [.s 1], (some (124, true)), [], []⟩,
  ⟨126, true, .load none, [.s 125], (some (124, true)), [], []⟩,
  ⟨127, true, .bin .eql, [.s 126, .c zz], (some (124, true)), [], []⟩,
 p 128 .pick [.s 124, .s 127, .c ff],
 p 2 .mv [.s 128]])
 .ret)
 .skip))))))))))))))))))
 (.seq (.reg [
 p 2 .mv [.c ff]])
 .ret)))
def F192 : AFun where
  n := 70
  res := [.tmp 2]
  code := (.seq (.reg [
 p 1 (.box 6) [.s 0],
 p 2 .mv [.c zz]])
 (.seq (.block 0 (.seq (.reg [
 p 4 (.faddr 0) [.s 1],
 p 5 (.load none) [.s 4],
 p 6 (.bin .lss) [.s 5, .c zz],
 p 7 .mv [.s 6],
  ⟨8, true, .faddr 0, [.s 1], (some (7, false)), [], []⟩,
  ⟨9, true, .load none, [.s 8], (some (7, false)), [], []⟩,
  ⟨10, true, .bin .gtr, [.s 9, .c (.int .i64 63)], (some (7, false)), [], []⟩,
 p 11 .pick [.s 7, .c (.bool true), .s 10],
 p 3 .mv [.s 11]])
 (.cond (.s 3) (.seq (.reg [
 p 2 .mv [.c (.int .i64 1)]])
 .ret)
 (.seq (.reg [
 p 13 (.faddr 1) [.s 1],
 p 14 (.load none) [.s 13],
 p 15 (.bin .lss) [.s 14, .c (.int .i64 1)],
 p 16 .mv [.s 15],
  ⟨17, true, .faddr 1, [.s 1], (some (16, false)), [], []⟩,
  ⟨18, true, .load none, [.s 17], (some (16, false)), [], []⟩,
  ⟨19, true, .bin .gtr, [.s 18, .c (.int .i64 16384)], (some (16, false)), [], []⟩,
 p 20 .pick [.s 16, .c (.bool true), .s 19],
 p 21 .mv [.s 20],
  ⟨22, true, .faddr 2, [.s 1], (some (21, false)), [], []⟩,
  ⟨23, true, .load none, [.s 22], (some (21, false)), [], []⟩,
  ⟨24, true, .bin .lss, [.s 23, .c (.int .i64 1)], (some (21, false)), [], []⟩,
 p 25 .pick [.s 21, .c (.bool true), .s 24],
 p 26 .mv [.s 25],
  ⟨27, true, .faddr 2, [.s 1], (some (26, false)), [], []⟩,
  ⟨28, true, .load none, [.s 27], (some (26, false)), [], []⟩,
  ⟨29, true, .faddr 1, [.s 1], (some (26, false)), [], []⟩,
  ⟨30, true, .load none, [.s 29], (some (26, false)), [], []⟩,
  ⟨31, true, .bin .gtr, [.s 28, .s 30], (some (26, false)), [], []⟩,
 p 32 .pick [.s 26, .c (.bool true), .s 31],
 p 12 .mv [.s 32]])
 (.cond (.s 12) (.seq (.reg [
 p 2 .mv [.c (.int .i64 9)]])
 .ret)
 (.seq (.reg [
 p 34 (.faddr 3) [.s 1],
 p 35 (.load none) [.s 34],
 p 36 (.call 248) [.s 35],
 p 37 (.un .not) [.s 36],
 p 38 .mv [.s 37],
  ⟨39, true, .faddr 4, [.s 1], (some (38, false)), [], []⟩,
  ⟨40, true, .load none, [.s 39], (some (38, false)), [], []⟩,
  ⟨41, true, .call 249, [.s 40], (some (38, false)), [], []⟩,
  ⟨42, true, .un .not, [.s 41], (some (38, false)), [], []⟩,
 p 43 .pick [.s 38, .c (.bool true), .s 42],
 p 44 .mv [.s 43],
  ⟨45, true, .faddr 5, [.s 1], (some (44, false)), [], []⟩,
  ⟨46, true, .load none, [.s 45], (some (44, false)), [], []⟩,
  ⟨47, true, .call 249, [.s 46], (some (44, false)), [], []⟩,
  ⟨48, true, .un .not, [.s 47], (some (44, false)), [], []⟩,
 p 49 .pick [.s 44, .c (.bool true), .s 48],
 p 50 .mv [.s 49],
  ⟨51, true, .faddr 5, [.s 1], (some (50, false)), [], []⟩,
  ⟨52, true, .load none, [.s 51], (some (50, false)), [], []⟩,
  ⟨53, true, .call 250, [.s 52], (some (50, false)), [], []⟩,
 p 54 .pick [.s 50, .c (.bool true), .s 53],
 p 33 .mv [.s 54]])
 (.cond (.s 33) (.seq (.reg [
 p 2 .mv [.c (.int .i64 2)]])
 .ret)
 (.seq (.drw [
 p 56 (.faddr 3) [.s 1],
  ⟨57, true, .load none, [.s 56], none, [1], []⟩,
 p 58 (.call 251) [.s 57],
 p 59 (.faddr 2) [.s 1],
  ⟨60, true, .load none, [.s 59], none, [1], []⟩,
 p 61 (.bin .gtr) [.s 58, .s 60],
 p 55 .mv [.s 61]])
 (.cond (.s 55) (.seq (.reg [
 p 2 .mv [.c (.int .i64 10)]])
 .ret)
 (.seq (.drw [
 p 63 (.faddr 4) [.s 1],
  ⟨64, true, .load none, [.s 63], none, [1], []⟩,
 p 65 (.call 251) [.s 64],
 p 66 (.faddr 3) [.s 1],
  ⟨67, true, .load none, [.s 66], none, [1], []⟩,
 p 68 (.call 251) [.s 67],
 p 69 (.bin .gtr) [.s 65, .s 68],
 p 62 .mv [.s 69]])
 (.cond (.s 62) (.seq (.reg [
 p 2 .mv [.c (.int .i64 12)]])
 .ret)
 .skip)))))))))))
 (.seq (.reg [
 p 2 .mv [.c zz]])
 .ret)))
def F193 : AFun where
  n := 16
  res := [.cell 2 (some 6)]
  code := (.seq (.reg [
 p 1 (.box 6) [.s 0],
 p 2 (.zero [zz, zz, zz, et, et, et]) []])
 (.seq (.drw [
 p 3 (.faddr 3) [.s 1],
  ⟨4, true, .load none, [.s 3], none, [1], []⟩,
  ⟨5, true, .call 135, [.s 4], none, [5, 8, 11], [5, 8, 11]⟩,
 p 6 (.faddr 4) [.s 1],
  ⟨7, true, .load none, [.s 6], none, [1], []⟩,
  ⟨8, true, .call 135, [.s 7], none, [5, 8, 11], [5, 8, 11]⟩,
 p 9 (.faddr 5) [.s 1],
  ⟨10, true, .load none, [.s 9], none, [1], []⟩,
  ⟨11, true, .call 135, [.s 10], none, [5, 8, 11], [5, 8, 11]⟩,
 p 12 (.faddr 3) [.s 1],
  ⟨500, false, .store 1, [.s 12, .s 5], none, [1, 5], [1]⟩,
 p 13 (.faddr 4) [.s 1],
  ⟨501, false, .store 1, [.s 13, .s 8], none, [1, 8], [1]⟩,
 p 14 (.faddr 5) [.s 1],
  ⟨502, false, .store 1, [.s 14, .s 11], none, [1, 11], [1]⟩])
 (.seq (.reg [
 p 15 (.load (some 6)) [.s 1],
  ⟨503, false, .store 6, [.s 2, .s 15], none, [], []⟩])
 .ret)))
def F194 : AFun where
  n := 19
  res := [.tmp 4]
  code := (.seq (.reg [
 p 4 .mv [.c zz]])
 (.seq (.seq (.reg [
 p 6 .mv [.s 0],
 p 7 .len [.s 6],
 p 8 .mv [.c zz]])
 (.block 0 (.loop (.seq (.reg [
 p 9 (.bin .lss) [.s 8, .s 7]])
 (.seq (.cond (.s 9) .skip
 (.exit 0))
 (.seq (.block 1 (.seq (.reg [
 p 10 .mv [.s 8],
 p 5 .mv [.s 10]])
 (.seq (.reg [
 p 11 .mv [.s 1],
 p 12 .mv [.s 0],
 p 13 .mv [.s 5],
 p 14 (.iaddr 6) [.s 12, .s 13],
 p 15 (.load (some 6)) [.s 14],
 p 16 .callv [.s 11, .s 15]])
 (.cond (.s 16) (.seq (.reg [
 p 17 .mv [.s 5],
 p 4 .mv [.s 17]])
 .ret)
 .skip))))
 (.reg [
 p 18 (.bin .add) [.s 8, .c (.int .i64 1)],
 p 8 .mv [.s 18]])))))))
 (.seq (.reg [
 p 4 .mv [.c (.int .i64 (-1))]])
 .ret)))
def F195 : AFun where
  n := 9
  res := [.tmp 3]
  code := (.seq (.reg [
 p 2 (.box 6) [.s 0],
 p 3 .mv [.c ff]])
 (.seq (.reg [
 p 4 (.faddr 0) [.s 2],
 p 5 (.load none) [.s 4],
 p 6 (.faddr 0) [.s 1],
 p 7 (.load none) [.s 6],
 p 8 (.bin .gtr) [.s 5, .s 7],
 p 3 .mv [.s 8]])
 .ret))
def F196 : AFun where
  n := 95
  res := [.tmp 6]
  code := (.seq (.reg [
 p 6 .mv [.c et]])
 (.seq (.reg [
 p 10 .mv [.s 0],
 p 11 .mv [.s 1],
 p 12 (.slice 6 true false) [.s 10, .s 11]])
 (.seq (.reg [
 p 13 .mv [.s 2],
 p 14 .len [.s 13],
 p 7 .mv [.s 14]])
 (.seq (.seq (.reg [
 p 15 .mv [.s 7],
 p 16 (.bin .eql) [.s 15, .c zz]])
 (.cond (.s 16) (.seq (.reg [
 p 17 .mv [.s 0],
 p 6 .mv [.s 17]])
 .ret)
 .skip))
 (.seq (.reg [
 p 18 .mv [.s 0],
 p 19 .len [.s 18],
 p 8 .mv [.s 19]])
 (.seq (.seq (.reg [
 p 20 .mv [.s 1],
 p 21 .mv [.s 8],
 p 22 (.bin .eql) [.s 20, .s 21]])
 (.cond (.s 22) (.seq (.reg [
 p 23 .mv [.s 0],
 p 24 .mv [.s 2],
 p 25 (.app 6 96 [zz, zz, zz, se, se, se]) [.s 23, .s 24],
 p 6 .mv [.s 25]])
 .ret)
 .skip))
 (.seq (.seq (.reg [
 p 26 .mv [.s 8],
 p 27 .mv [.s 7],
 p 28 (.bin .add) [.s 26, .s 27],
 p 29 .mv [.s 0],
 p 30 .capE [.s 29],
 p 31 (.bin .gtr) [.s 28, .s 30]])
 (.cond (.s 31) (.seq (.reg [
 p 32 .mv [.s 0],
 p 33 .mv [.s 1],
 p 34 (.slice 6 false true) [.s 32, .s 33],
 p 35 .mv [.s 8],
 p 36 .mv [.s 7],
 p 37 (.bin .add) [.s 35, .s 36],
 p 38 .mv [.s 1],
 p 39 (.bin .sub) [.s 37, .s 38],
 p 40 (.appZ 96 [zz, zz, zz, se, se, se]) [.s 34, .s 39],
 p 9 .mv [.s 40]])
 (.seq (.reg [
 p 41 .mv [.s 9],
 p 42 .mv [.s 1],
 p 43 (.slice 6 true false) [.s 41, .s 42],
 p 44 .mv [.s 2],
 p 45 .bad [.s 43, .s 44]])
 (.seq (.drw [
 p 46 .mv [.s 9],
 p 47 .mv [.s 1],
 p 48 .mv [.s 7],
 p 49 (.bin .add) [.s 47, .s 48],
  ⟨50, true, .slice 6 true false, [.s 46, .s 49], none, [40], []⟩,
 p 51 .mv [.s 0],
 p 52 .mv [.s 1],
  ⟨53, true, .slice 6 true false, [.s 51, .s 52], none, [0], []⟩,
 p 54 .bad [.s 50, .s 53]])
 (.seq (.reg [
 p 55 .mv [.s 9],
 p 6 .mv [.s 55]])
 .ret))))
 .skip))
 (.seq (.reg [
 p 56 .mv [.s 0],
 p 57 .mv [.s 8],
 p 58 .mv [.s 7],
 p 59 (.bin .add) [.s 57, .s 58],
 p 60 (.slice 6 false true) [.s 56, .s 59],
 p 0 .mv [.s 60]])
 (.seq (.seq (.reg [
 p 61 .mv [.s 2],
 p 62 .mv [.s 0],
 p 63 .mv [.s 1],
 p 64 .mv [.s 7],
 p 65 (.bin .add) [.s 63, .s 64],
 p 66 (.slice 6 true false) [.s 62, .s 65],
 p 67 .bad [],
 p 68 (.un .not) [.s 67]])
 (.cond (.s 68) (.seq (.drw [
 p 69 .mv [.s 0],
 p 70 .mv [.s 1],
 p 71 .mv [.s 7],
 p 72 (.bin .add) [.s 70, .s 71],
  ⟨73, true, .slice 6 true false, [.s 69, .s 72], none, [0], []⟩,
 p 74 .mv [.s 0],
 p 75 .mv [.s 1],
  ⟨76, true, .slice 6 true false, [.s 74, .s 75], none, [0], []⟩,
 p 77 .bad [.s 73, .s 76]])
 (.seq (.reg [
 p 78 .mv [.s 0],
 p 79 .mv [.s 1],
 p 80 (.slice 6 true false) [.s 78, .s 79],
 p 81 .mv [.s 2],
 p 82 .bad [.s 80, .s 81]])
 (.seq (.reg [
 p 83 .mv [.s 0],
 p 6 .mv [.s 83]])
 .ret)))
 .skip))
 (.seq (.reg [
 p 84 .mv [.s 0],
 p 85 .mv [.s 8],
 p 86 (.slice 6 true false) [.s 84, .s 85],
 p 87 .mv [.s 2],
 p 88 .bad [.s 86, .s 87]])
 (.seq (.reg [
 p 89 .mv [.s 0],
 p 90 .mv [.s 1],
 p 91 (.slice 6 true false) [.s 89, .s 90],
 p 92 .mv [.s 7],
 p 93 (.call 253) [.s 91, .s 92]])
 (.seq (.reg [
 p 94 .mv [.s 0],
 p 6 .mv [.s 94]])
 .ret))))))))))))
def F197 : AFun where
  n := 56
  res := [.tmp 4, .tmp 5]
  code := (.seq (.reg [
 p 4 .mv [.c et],
 p 5 .mv [.c zz]])
 (.seq (.seq (.reg [
 p 14 .mv [.s 1],
 p 15 (.bin .lss) [.s 14, .c (.int .i64 1)]])
 (.cond (.s 15) (.seq (.reg [
 p 4 .mv [.c et],
 p 5 .mv [.c (.int .i64 1)]])
 .ret)
 .skip))
 (.seq (.seq (.reg [
 p 16 .mv [.s 0],
 p 17 .len [.s 16],
 p 18 .mv [.c zz]])
 (.block 0 (.loop (.seq (.reg [
 p 19 (.bin .lss) [.s 18, .s 17]])
 (.seq (.cond (.s 19) .skip
 (.exit 0))
 (.seq (.block 1 (.seq (.reg [
 p 20 .mv [.s 18],
 p 21 (.iaddr 6) [.s 16, .s 18],
 p 22 (.load (some 6)) [.s 21],
 p 7 (.zero [zz, zz, zz, et, et, et]) [],
 p 6 .mv [.s 20],
  ⟨500, false, .store 6, [.s 7, .s 22], none, [], []⟩])
 (.seq (.reg [
 p 24 .mv [.s 0],
 p 25 .mv [.s 6],
 p 26 .mv [.s 1],
 p 27 (.call 254) [.s 24, .s 25, .s 26],
 p 23 .mv [.s 27],
 p 28 (.extract 0) [.s 23],
 p 29 (.extract 1) [.s 23],
 p 30 (.extract 2) [.s 23],
 p 8 .mv [.s 28],
 p 9 .mv [.s 29],
 p 10 .mv [.s 30]])
 (.seq (.seq (.reg [
 p 31 .mv [.s 10],
 p 32 (.bin .neq) [.s 31, .c zz]])
 (.cond (.s 32) (.seq (.reg [
 p 33 .mv [.s 10],
 p 4 .mv [.c et],
 p 5 .mv [.s 33]])
 .ret)
 .skip))
 (.seq (.reg [
 p 35 (.load (some 6)) [.s 7],
 p 36 (.call 255) [.s 35],
 p 34 .mv [.s 36],
 p 37 (.extract 0) [.s 34],
 p 38 (.extract 1) [.s 34],
 p 39 (.extract 2) [.s 34],
 p 11 .mv [.s 37],
 p 12 .mv [.s 38],
 p 13 .mv [.s 39]])
 (.drw [
 p 40 .mv [.s 4],
 p 41 .mv [.s 11],
 p 42 .mv [.s 12],
 p 43 .mv [.s 0],
 p 44 .mv [.s 6],
 p 45 (.call 256) [.s 43, .s 44],
 p 46 .mv [.s 8],
 p 47 (.faddr 2) [.s 7],
  ⟨48, true, .load none, [.s 47], none, [7], []⟩,
 p 49 .mv [.s 8],
 p 50 (.bin .sub) [.s 48, .s 49],
 p 51 (.build [zz, zz, zz, zz, zz] [(0, 1), (1, 1), (2, 1), (3, 1), (4, 1)]) [.s 41, .s 42, .s 45, .s 46, .s 50],
 p 52 (.buildSl 5 [zz, zz, zz, zz, zz] 1 [0]) [.s 51],
  ⟨53, true, .app 5 40 [zz, zz, zz, zz, zz], [.s 40, .s 52], none, [52, 53], [52, 53]⟩,
 p 4 .mv [.s 53]]))))))
 (.reg [
 p 54 (.bin .add) [.s 18, .c (.int .i64 1)],
 p 18 .mv [.s 54]])))))))
 (.seq (.reg [
 p 55 .mv [.s 4],
 p 4 .mv [.s 55],
 p 5 .mv [.c zz]])
 .ret))))
def F198 : AFun where
  n := 37
  res := [.cell 2 (some 2), .cell 3 (some 2), .tmp 4]
  code := (.seq (.reg [
 p 1 (.box 2) [.s 0],
 p 2 (.zero [et, et]) [],
 p 3 (.zero [zz, zz]) [],
 p 4 .mv [.c ff]])
 (.seq (.reg [
 p 6 (.load (some 2)) [.s 1],
 p 7 (.call 257) [.s 6],
  ⟨500, false, .store 2, [.s 1, .s 7], none, [], []⟩])
 (.seq (.drw [
 p 8 (.faddr 1) [.s 1],
  ⟨9, true, .load none, [.s 8], none, [1], []⟩,
  ⟨10, true, .load (some 2), [.s 1], none, [1], []⟩,
  ⟨11, true, .call 259, [.s 10], none, [7], []⟩,
  ⟨12, true, .slice 1 false true, [.s 9, .s 11], none, [7], []⟩,
  ⟨13, true, .call 258, [.s 12, .c ff], none, [7], []⟩,
 p 5 .mv [.s 13]])
 (.seq (.seq (.reg [
 p 14 .mv [.s 5],
 p 15 (.bin .lss) [.s 14, .c zz]])
 (.cond (.s 15) (.seq (.reg [
 p 16 (.load (some 2)) [.s 1],
 p 17 (.build [zz, zz] []) [],
  ⟨501, false, .store 2, [.s 2, .s 16], none, [], []⟩,
  ⟨502, false, .store 2, [.s 3, .s 17], none, [], []⟩,
 p 4 .mv [.c ff]])
 .ret)
 .skip))
 (.seq (.reg [
 p 18 (.faddr 0) [.s 1],
 p 19 (.load none) [.s 18],
 p 20 .mv [.s 5],
 p 21 (.iaddr 1) [.s 19, .s 20],
 p 22 (.load none) [.s 21],
 p 23 (.bin .add) [.s 22, .c (.int .i64 1)],
 p 24 (.iaddr 1) [.s 19, .s 20],
  ⟨503, false, .store 1, [.s 24, .s 23], none, [], []⟩])
 (.seq (.reg [
 p 25 (.faddr 1) [.s 1],
 p 26 (.load none) [.s 25],
 p 27 .mv [.s 5],
 p 28 (.iaddr 1) [.s 26, .s 27],
  ⟨504, false, .store 1, [.s 28, .c (.bool true)], none, [], []⟩])
 (.seq (.drw [
  ⟨29, true, .load (some 2), [.s 1], none, [1], []⟩,
 p 30 .mv [.s 5],
 p 31 (.faddr 0) [.s 1],
  ⟨32, true, .load none, [.s 31], none, [1], []⟩,
 p 33 .mv [.s 5],
  ⟨34, true, .iaddr 1, [.s 32, .s 33], none, [7], []⟩,
  ⟨35, true, .load none, [.s 34], none, [7], []⟩,
 p 36 (.build [zz, zz] [(0, 1), (1, 1)]) [.s 30, .s 35],
  ⟨505, false, .store 2, [.s 2, .s 29], none, [2, 7], [2]⟩,
  ⟨506, false, .store 2, [.s 3, .s 36], none, [3], [3]⟩,
 p 4 .mv [.c (.bool true)]])
 .ret)))))))
def F199 : AFun where
  n := 7
  res := [.cell 2 (some 10)]
  code := (.seq (.reg [
 p 1 (.box 10) [.s 0],
 p 2 (.zero [zz, zz, zz, zz, zz, et, et, (.int .u32 0), et, (.int .u32 0)]) []])
 (.seq (.reg [
 p 3 (.load (some 10)) [.s 1],
 p 4 (.call 208) [.s 3],
 p 5 (.faddr 9) [.s 1],
  ⟨500, false, .store 1, [.s 5, .s 4], none, [], []⟩])
 (.seq (.reg [
 p 6 (.load (some 10)) [.s 1],
  ⟨501, false, .store 10, [.s 2, .s 6], none, [], []⟩])
 .ret)))
def F200 : AFun where
  n := 14
  res := [.cell 4 (some 10)]
  code := (.seq (.reg [
 p 3 (.box 2) [.s 1],
 p 4 (.zero [zz, zz, zz, zz, zz, et, et, (.int .u32 0), et, (.int .u32 0)]) []])
 (.seq (.reg [
 p 6 .mv [.s 0],
 p 7 (.load (some 2)) [.s 3],
 p 8 (.build [zz, zz, zz, zz, zz, et, et, (.int .u32 0), et, (.int .u32 0)] [(0, 1), (1, 2)]) [.s 6, .s 7],
 p 5 (.zero [zz, zz, zz, zz, zz, et, et, (.int .u32 0), et, (.int .u32 0)]) [],
  ⟨500, false, .store 10, [.s 5, .s 8], none, [], []⟩])
 (.seq (.seq (.reg [
 p 9 .mv [.s 0],
 p 10 (.bin .eql) [.s 9, .c (.int .i64 1)]])
 (.cond (.s 10) (.reg [
 p 11 (.faddr 3) [.s 5],
 p 12 (.faddr 0) [.s 11],
  ⟨501, false, .store 1, [.s 12, .c (.int .i64 8)], none, [], []⟩])
 .skip))
 (.seq (.reg [
 p 13 (.load (some 10)) [.s 5],
  ⟨502, false, .store 10, [.s 4, .s 13], none, [], []⟩])
 .ret))))
def F201 : AFun where
  n := 9
  res := [.tmp 4]
  code := (.seq (.reg [
 p 4 .mv [.c ff]])
 (.seq (.reg [
 p 5 .mv [.s 0],
 p 6 .mv [.s 1],
 p 7 (.call 260) [.s 5, .s 6],
 p 8 (.bin .geq) [.s 7, .c zz],
 p 4 .mv [.s 8]])
 .ret))
def F202 : AFun where
  n := 36
  res := [.tmp 2]
  code := (.seq (.reg [
 p 2 .mv [.c et]])
 (.seq (.reg [
 p 3 .mv [.c zz]])
 (.seq (.seq (.reg [
 p 9 .mv [.s 0],
 p 10 .len [.s 9],
 p 11 .mv [.c zz]])
 (.block 0 (.loop (.seq (.reg [
 p 12 (.bin .lss) [.s 11, .s 10]])
 (.seq (.cond (.s 12) .skip
 (.exit 0))
 (.seq (.block 1 (.seq (.reg [
 p 13 (.iaddr 1) [.s 9, .s 11],
 p 14 (.load none) [.s 13],
 p 5 .mv [.s 14]])
 (.seq (.reg [
 p 15 .mv [.s 3],
 p 16 .mv [.s 5],
 p 17 .len [.s 16],
 p 18 (.bin .add) [.s 15, .s 17],
 p 3 .mv [.s 18]])
 (.seq (.reg [
 p 19 .mv [.s 3],
 p 20 (.bin .lss) [.s 19, .c zz]])
 (.cond (.s 20) (.reg [
 p 21 .bad [],
  ⟨500, false, .bad, [], none, [], []⟩])
 .skip)))))
 (.reg [
 p 22 (.bin .add) [.s 11, .c (.int .i64 1)],
 p 11 .mv [.s 22]])))))))
 (.seq (.reg [
 p 23 .mv [.s 3],
 p 24 (.call 261) [.c et, .s 23],
 p 6 .mv [.s 24]])
 (.seq (.seq (.reg [
 p 25 .mv [.s 0],
 p 26 .len [.s 25],
 p 27 .mv [.c zz]])
 (.block 2 (.loop (.seq (.reg [
 p 28 (.bin .lss) [.s 27, .s 26]])
 (.seq (.cond (.s 28) .skip
 (.exit 2))
 (.seq (.block 3 (.seq (.reg [
 p 29 (.iaddr 1) [.s 25, .s 27],
 p 30 (.load none) [.s 29],
 p 8 .mv [.s 30]])
 (.reg [
 p 31 .mv [.s 6],
 p 32 .mv [.s 8],
 p 33 (.app 4 32 [zz, zz, zz, zz]) [.s 31, .s 32],
 p 6 .mv [.s 33]])))
 (.reg [
 p 34 (.bin .add) [.s 27, .c (.int .i64 1)],
 p 27 .mv [.s 34]])))))))
 (.seq (.reg [
 p 35 .mv [.s 6],
 p 2 .mv [.s 35]])
 .ret))))))
def F203 : AFun where
  n := 14
  res := [.tmp 3]
  code := (.seq (.reg [
 p 2 (.box 4) [.s 0],
 p 3 .mv [.c ff]])
 (.seq (.reg [
 p 4 (.faddr 0) [.s 2],
 p 5 (.load none) [.s 4],
 p 6 (.bin .eql) [.s 5, .c (.int .i64 9)],
 p 7 .mv [.s 6],
  ⟨8, true, .faddr 1, [.s 2], (some (7, true)), [], []⟩,
  ⟨9, true, .load none, [.s 8], (some (7, true)), [], []⟩,
  ⟨10, true, .load none, [.s 1], (some (7, true)), [], []⟩,
  ⟨11, true, .len, [.s 10], (some (7, true)), [], []⟩,
  ⟨12, true, .bin .geq, [.s 9, .s 11], (some (7, true)), [], []⟩,
 p 13 .pick [.s 7, .s 12, .c ff],
 p 3 .mv [.s 13]])
 .ret))
def F204 : AFun where
  n := 12
  res := [.tmp 4]
  code := (.seq (.reg [
 p 3 (.box 1) [.s 1],
 p 4 .mv [.c zz]])
 (.seq (.reg [
 p 6 .mv [.s 0],
 p 7 (.mkfn 262 0) [.s 3],
 p 8 (.call 194) [.s 6, .s 7],
 p 5 .mv [.s 8]])
 (.seq (.seq (.reg [
 p 9 .mv [.s 5],
 p 10 (.bin .lss) [.s 9, .c zz]])
 (.cond (.s 10) (.seq (.reg [
 p 4 .mv [.c (.int .i64 8)]])
 .ret)
 .skip))
 (.seq (.reg [
 p 11 .mv [.s 5],
 p 4 .mv [.s 11]])
 .ret))))
def F205 : AFun where
  n := 55
  res := []
  code := (.seq (.reg [
 p 7 .mv [.s 0],
 p 8 .nilck [.s 7],
 p 9 (.faddr 8) [.s 8],
 p 10 (.load (some 3)) [.s 9],
 p 11 (.call 143) [.s 10],
 p 12 .len [.s 11],
 p 13 .mv [.c zz]])
 (.block 0 (.loop (.seq (.reg [
 p 14 (.bin .lss) [.s 13, .s 12]])
 (.seq (.cond (.s 14) .skip
 (.exit 0))
 (.seq (.block 1 (.seq (.reg [
 p 15 .mv [.s 13],
 p 16 (.iaddr 1) [.s 11, .s 13],
 p 17 (.load none) [.s 16],
 p 4 .mv [.s 15],
 p 5 .mv [.s 17]])
 (.seq (.reg [
 p 18 .mv [.s 0],
 p 19 .nilck [.s 18],
 p 20 (.faddr 8) [.s 19],
 p 21 (.faddr 2) [.s 20],
 p 22 (.load none) [.s 21],
 p 23 .mv [.s 5],
 p 24 (.iaddr 10) [.s 22, .s 23],
 p 25 (.load (some 10)) [.s 24],
 p 6 (.zero [zz, zz, zz, zz, zz, et, et, (.int .u32 0), et, (.int .u32 0)]) [],
  ⟨500, false, .store 10, [.s 6, .s 25], none, [], []⟩])
 (.seq (.drw [
 p 26 .mv [.s 4],
 p 27 .mv [.s 1],
 p 28 .len [.s 27],
 p 29 (.bin .lss) [.s 26, .s 28],
 p 30 .mv [.s 29],
  ⟨31, true, .faddr 3, [.s 6], (some (30, true)), [], []⟩,
  ⟨32, true, .load (some 2), [.s 31], (some (30, true)), [6], []⟩,
  ⟨33, true, .mv, [.s 1], (some (30, true)), [], []⟩,
  ⟨34, true, .mv, [.s 4], (some (30, true)), [], []⟩,
  ⟨35, true, .iaddr 2, [.s 33, .s 34], (some (30, true)), [], []⟩,
  ⟨36, true, .load (some 2), [.s 35], (some (30, true)), [], []⟩,
  ⟨37, true, .eqv true [some .i64, some .i64] true, [.s 32, .s 36], (some (30, true)), [], []⟩,
 p 38 .pick [.s 30, .s 37, .c ff]])
 (.cond (.s 38) (.seq (.reg [
 p 39 .mv [.s 1],
 p 40 .mv [.s 4],
 p 41 (.iaddr 2) [.s 39, .s 40],
 p 42 (.load (some 2)) [.s 41],
 p 43 (.faddr 3) [.s 6],
  ⟨501, false, .store 2, [.s 43, .s 42], none, [], []⟩])
 (.drw [
 p 44 .mv [.s 0],
 p 45 .mv [.s 0],
 p 46 .nilck [.s 45],
 p 47 (.faddr 8) [.s 46],
  ⟨48, true, .load (some 3), [.s 47], none, [0], []⟩,
 p 49 .mv [.s 5],
  ⟨50, true, .load (some 10), [.s 6], none, [6], []⟩,
  ⟨51, true, .call 127, [.s 48, .s 49, .s 50], none, [0, 51], [0, 51]⟩,
 p 52 .nilck [.s 44],
 p 53 (.faddr 8) [.s 52],
  ⟨502, false, .store 3, [.s 53, .s 51], none, [0, 51], [0]⟩]))
 .skip)))))
 (.reg [
 p 54 (.bin .add) [.s 13, .c (.int .i64 1)],
 p 13 .mv [.s 54]])))))))
def F206 : AFun where
  n := 20
  res := [.tmp 4, .tmp 5]
  code := (.seq (.reg [
 p 2 (.box 3) [.s 0],
 p 3 (.box 2) [.s 1],
 p 4 .mv [.c zz],
 p 5 .mv [.c ff]])
 (.seq (.seq (.reg [
 p 6 (.faddr 0) [.s 2],
 p 7 (.load (some 2)) [.s 6],
 p 8 (.load (some 2)) [.s 3],
 p 9 (.call 264) [.s 7, .s 8],
 p 10 (.un .not) [.s 9],
 p 11 .mv [.s 10],
  ⟨12, true, .load (some 3), [.s 2], (some (11, false)), [], []⟩,
  ⟨13, true, .faddr 0, [.s 3], (some (11, false)), [], []⟩,
  ⟨14, true, .load none, [.s 13], (some (11, false)), [], []⟩,
  ⟨15, true, .call 88, [.s 12, .s 14], (some (11, false)), [], []⟩,
  ⟨16, true, .un .not, [.s 15], (some (11, false)), [], []⟩,
 p 17 .pick [.s 11, .c (.bool true), .s 16]])
 (.cond (.s 17) (.seq (.reg [
 p 4 .mv [.c zz],
 p 5 .mv [.c ff]])
 .ret)
 .skip))
 (.seq (.reg [
 p 18 (.faddr 0) [.s 3],
 p 19 (.load none) [.s 18],
 p 4 .mv [.s 19],
 p 5 .mv [.c (.bool true)]])
 .ret)))
def F207 : AFun where
  n := 10
  res := [.cell 2 (some 2)]
  code := (.seq (.reg [
 p 1 (.box 2) [.s 0],
 p 2 (.zero [et, et]) []])
 (.seq (.drw [
 p 3 (.faddr 0) [.s 1],
  ⟨4, true, .load none, [.s 3], none, [1], []⟩,
 p 5 (.call 229) [.s 4],
 p 6 (.faddr 1) [.s 1],
  ⟨7, true, .load none, [.s 6], none, [1], []⟩,
 p 8 (.call 137) [.s 7],
  ⟨9, true, .build [et, et] [(0, 1), (1, 1)], [.s 5, .s 8], none, [5, 8], []⟩,
  ⟨500, false, .store 2, [.s 2, .s 9], none, [2, 5, 8], [2]⟩])
 .ret))
def F208 : AFun where
  n := 78
  res := [.tmp 2]
  code := (.seq (.reg [
 p 1 (.box 10) [.s 0],
 p 2 .mv [.c (.int .u32 0)]])
 (.seq (.reg [
 p 8 (.faddr 0) [.s 1],
 p 9 (.load none) [.s 8],
 p 10 (.faddr 1) [.s 1],
 p 11 (.faddr 0) [.s 10],
 p 12 (.load none) [.s 11],
 p 13 (.faddr 1) [.s 1],
 p 14 (.faddr 1) [.s 13],
 p 15 (.load none) [.s 14],
 p 16 (.faddr 3) [.s 1],
 p 17 (.faddr 0) [.s 16],
 p 18 (.load none) [.s 17],
 p 19 (.faddr 3) [.s 1],
 p 20 (.faddr 1) [.s 19],
 p 21 (.load none) [.s 20],
 p 22 (.faddr 5) [.s 1],
 p 23 (.faddr 0) [.s 22],
 p 24 (.load none) [.s 23],
 p 25 .len [.s 24],
 p 26 (.buildSl 1 [zz] 6 [0, 1, 2, 3, 4, 5]) [.s 9, .s 12, .s 15, .s 18, .s 21, .s 25],
 p 3 .mv [.s 26]])
 (.seq (.reg [
 p 27 .mv [.s 3],
 p 28 (.faddr 5) [.s 1],
 p 29 (.faddr 0) [.s 28],
 p 30 (.load none) [.s 29],
 p 31 (.app 1 8 [zz]) [.s 27, .s 30],
 p 3 .mv [.s 31]])
 (.seq (.reg [
 p 32 .mv [.s 3],
 p 33 (.faddr 5) [.s 1],
 p 34 (.faddr 1) [.s 33],
 p 35 (.load none) [.s 34],
 p 36 .len [.s 35],
 p 37 (.buildSl 1 [zz] 1 [0]) [.s 36],
 p 38 (.app 1 8 [zz]) [.s 32, .s 37],
 p 3 .mv [.s 38]])
 (.seq (.seq (.reg [
 p 39 (.faddr 5) [.s 1],
 p 40 (.faddr 1) [.s 39],
 p 41 (.load none) [.s 40],
 p 42 .len [.s 41],
 p 43 .mv [.c zz]])
 (.block 0 (.loop (.seq (.reg [
 p 44 (.bin .lss) [.s 43, .s 42]])
 (.seq (.cond (.s 44) .skip
 (.exit 0))
 (.seq (.block 1 (.seq (.reg [
 p 45 (.iaddr 1) [.s 41, .s 43],
 p 46 (.load none) [.s 45],
 p 5 .mv [.s 46]])
 (.reg [
 p 47 .mv [.s 3],
 p 48 .mv [.s 5],
 p 49 (.buildSl 1 [zz] 1 [0]) [.s 48],
 p 50 (.app 1 8 [zz]) [.s 47, .s 49],
 p 3 .mv [.s 50]])))
 (.reg [
 p 51 (.bin .add) [.s 43, .c (.int .i64 1)],
 p 43 .mv [.s 51]])))))))
 (.seq (.reg [
 p 52 .mv [.s 3],
 p 53 (.faddr 7) [.s 1],
 p 54 (.faddr 0) [.s 53],
 p 55 (.load none) [.s 54],
 p 56 (.conv .i64) [.s 55],
 p 57 (.buildSl 1 [zz] 1 [0]) [.s 56],
 p 58 (.app 1 8 [zz]) [.s 52, .s 57],
 p 3 .mv [.s 58]])
 (.seq (.seq (.reg [
 p 59 (.faddr 7) [.s 1],
 p 60 (.faddr 1) [.s 59],
 p 61 (.load none) [.s 60],
 p 62 .len [.s 61],
 p 63 .mv [.c zz]])
 (.block 2 (.loop (.seq (.reg [
 p 64 (.bin .lss) [.s 63, .s 62]])
 (.seq (.cond (.s 64) .skip
 (.exit 2))
 (.seq (.block 3 (.seq (.reg [
 p 65 (.iaddr 2) [.s 61, .s 63],
 p 66 (.load (some 2)) [.s 65],
 p 7 (.zero [zz, (.int .u32 0)]) [],
  ⟨500, false, .store 2, [.s 7, .s 66], none, [], []⟩])
 (.reg [
 p 67 .mv [.s 3],
 p 68 (.faddr 0) [.s 7],
 p 69 (.load none) [.s 68],
 p 70 (.faddr 1) [.s 7],
 p 71 (.load none) [.s 70],
 p 72 (.conv .i64) [.s 71],
 p 73 (.buildSl 1 [zz] 2 [0, 1]) [.s 69, .s 72],
 p 74 (.app 1 8 [zz]) [.s 67, .s 73],
 p 3 .mv [.s 74]])))
 (.reg [
 p 75 (.bin .add) [.s 63, .c (.int .i64 1)],
 p 63 .mv [.s 75]])))))))
 (.seq (.reg [
 p 76 .mv [.s 3],
 p 77 (.call 265) [.s 76],
 p 2 .mv [.s 77]])
 .ret))))))))
def F209 : AFun where
  n := 9
  res := [.tmp 4]
  code := (.seq (.reg [
 p 4 .mv [.c ff]])
 (.seq (.reg [
 p 5 .mv [.s 0],
 p 6 .mv [.s 1],
 p 7 (.call 142) [.s 5, .s 6],
 p 8 (.bin .geq) [.s 7, .c zz],
 p 4 .mv [.s 8]])
 .ret))
def F210 : AFun := cloneOf 2 16 [zz, (.int .u32 0)]
def F211 : AFun where
  n := 9
  res := [.tmp 4]
  code := (.seq (.reg [
 p 4 .mv [.c ff]])
 (.seq (.reg [
 p 5 .mv [.s 0],
 p 6 .mv [.s 1],
 p 7 (.call 266) [.s 5, .s 6],
 p 8 (.bin .geq) [.s 7, .c zz],
 p 4 .mv [.s 8]])
 .ret))
def F212 : AFun where
  n := 8
  res := [.tmp 3]
  code := (.seq (.reg [
 p 2 (.box 2) [.s 0],
 p 3 .mv [.c ff]])
 (.seq (.reg [
 p 4 (.faddr 0) [.s 2],
 p 5 (.load none) [.s 4],
 p 6 (.load none) [.s 1],
 p 7 (.bin .eql) [.s 5, .s 6],
 p 3 .mv [.s 7]])
 .ret))
def F213 : AFun where
  n := 19
  res := [.cell 4 (some 2), .tmp 5]
  code := (.seq (.reg [
 p 2 (.box 2) [.s 0],
 p 3 (.box 2) [.s 1],
 p 4 (.zero [et, et]) [],
 p 5 .mv [.c ff]])
 (.seq (.reg [
 p 6 (.load (some 2)) [.s 2],
 p 7 (.call 257) [.s 6],
  ⟨500, false, .store 2, [.s 2, .s 7], none, [], []⟩])
 (.seq (.seq (.reg [
 p 8 (.load (some 2)) [.s 2],
 p 9 (.load (some 2)) [.s 3],
 p 10 (.call 264) [.s 8, .s 9],
 p 11 (.un .not) [.s 10]])
 (.cond (.s 11) (.seq (.reg [
 p 12 (.load (some 2)) [.s 2],
  ⟨501, false, .store 2, [.s 4, .s 12], none, [], []⟩,
 p 5 .mv [.c ff]])
 .ret)
 .skip))
 (.seq (.reg [
 p 13 (.faddr 1) [.s 2],
 p 14 (.load none) [.s 13],
 p 15 (.faddr 0) [.s 3],
 p 16 (.load none) [.s 15],
 p 17 (.iaddr 1) [.s 14, .s 16],
  ⟨502, false, .store 1, [.s 17, .c ff], none, [], []⟩])
 (.seq (.reg [
 p 18 (.load (some 2)) [.s 2],
  ⟨503, false, .store 2, [.s 4, .s 18], none, [], []⟩,
 p 5 .mv [.c (.bool true)]])
 .ret)))))
def F214 : AFun where
  n := 23
  res := [.tmp 2]
  code := (.seq (.reg [
 p 1 (.box 10) [.s 0],
 p 2 .mv [.c et]])
 (.seq (.reg [
 p 8 (.faddr 5) [.s 1],
 p 9 (.load (some 2)) [.s 8],
 p 10 (.call 267) [.s 9],
 p 7 .mv [.s 10],
 p 11 (.extract 0) [.s 7],
 p 12 (.extract 1) [.s 7],
 p 3 (.zero [et, et]) [],
  ⟨500, false, .store 2, [.s 3, .s 11], none, [], []⟩,
 p 4 .mv [.s 12]])
 (.seq (.reg [
 p 14 (.faddr 7) [.s 1],
 p 15 (.load (some 2)) [.s 14],
 p 16 (.call 268) [.s 15],
 p 13 .mv [.s 16],
 p 17 (.extract 0) [.s 13],
 p 18 (.extract 1) [.s 13],
 p 5 (.zero [(.int .u32 0), et]) [],
  ⟨501, false, .store 2, [.s 5, .s 17], none, [], []⟩,
 p 6 .mv [.s 18]])
 (.seq (.reg [
 p 19 .mv [.s 4],
 p 20 .mv [.s 6],
 p 21 (.buildSl 1 [se] 2 [0, 1]) [.s 19, .s 20],
 p 22 (.call 269) [.s 21],
 p 2 .mv [.s 22]])
 .ret))))
def F215 : AFun where
  n := 10
  res := [.cell 2 (some 2)]
  code := (.seq (.reg [
 p 1 (.box 2) [.s 0],
 p 2 (.zero [et, et]) []])
 (.seq (.drw [
 p 3 (.faddr 0) [.s 1],
  ⟨4, true, .load none, [.s 3], none, [1], []⟩,
 p 5 (.call 137) [.s 4],
 p 6 (.faddr 1) [.s 1],
  ⟨7, true, .load none, [.s 6], none, [1], []⟩,
 p 8 (.call 149) [.s 7],
  ⟨9, true, .build [et, et] [(0, 1), (1, 1)], [.s 5, .s 8], none, [5, 8], []⟩,
  ⟨500, false, .store 2, [.s 2, .s 9], none, [2, 5, 8], [2]⟩])
 .ret))
def F216 : AFun where
  n := 24
  res := [.tmp 4]
  code := (.seq (.reg [
 p 4 .mv [.c et]])
 (.seq (.reg [
 p 7 .mv [.s 0],
 p 8 (.call 270) [.s 7],
 p 5 .mv [.s 8]])
 (.seq (.seq (.reg [
 p 9 .mv [.s 5],
 p 10 .len [.s 9],
 p 11 .mv [.c zz]])
 (.block 0 (.loop (.seq (.reg [
 p 12 (.bin .lss) [.s 11, .s 10]])
 (.seq (.cond (.s 12) .skip
 (.exit 0))
 (.seq (.block 1 (.seq (.reg [
 p 13 .mv [.s 11],
 p 6 .mv [.s 13]])
 (.seq (.reg [
 p 14 .mv [.s 0],
 p 15 .mv [.s 6],
 p 16 .mv [.s 1],
 p 17 (.call 271) [.s 14, .s 15, .s 16]])
 (.cond (.s 17) (.reg [
 p 18 .mv [.s 5],
 p 19 .mv [.s 6],
 p 20 (.iaddr 2) [.s 18, .s 19],
 p 21 (.faddr 1) [.s 20],
  ⟨500, false, .store 1, [.s 21, .c zz], none, [], []⟩])
 .skip))))
 (.reg [
 p 22 (.bin .add) [.s 11, .c (.int .i64 1)],
 p 11 .mv [.s 22]])))))))
 (.seq (.reg [
 p 23 .mv [.s 5],
 p 4 .mv [.s 23]])
 .ret))))
def F217 : AFun where
  n := 44
  res := [.cell 4 (some 2), .tmp 5, .tmp 6]
  code := (.seq (.reg [
 p 2 (.box 2) [.s 0],
 p 4 (.zero [et, et]) [],
 p 5 .mv [.c ff],
 p 6 .mv [.c ff]])
 (.seq (.reg [
 p 7 (.load (some 2)) [.s 2],
 p 8 (.call 215) [.s 7],
  ⟨500, false, .store 2, [.s 4, .s 8], none, [], []⟩])
 (.seq (.seq (.reg [
 p 9 (.load (some 2)) [.s 2],
 p 10 .mv [.s 1],
 p 11 (.call 272) [.s 9, .s 10],
 p 12 (.un .not) [.s 11]])
 (.cond (.s 12) (.seq (.reg [
 p 13 (.load (some 2)) [.s 4],
  ⟨501, false, .store 2, [.s 4, .s 13], none, [], []⟩,
 p 5 .mv [.c ff],
 p 6 .mv [.c ff]])
 .ret)
 .skip))
 (.seq (.reg [
 p 14 (.faddr 0) [.s 4],
 p 15 (.load none) [.s 14],
 p 16 .mv [.s 1],
 p 17 (.iaddr 1) [.s 15, .s 16],
 p 18 (.load none) [.s 17],
 p 19 (.bin .add) [.s 18, .c (.int .i64 1)],
 p 20 (.iaddr 1) [.s 15, .s 16],
  ⟨502, false, .store 1, [.s 20, .s 19], none, [], []⟩])
 (.seq (.seq (.reg [
 p 21 (.faddr 0) [.s 4],
 p 22 (.load none) [.s 21],
 p 23 .mv [.s 1],
 p 24 (.iaddr 1) [.s 22, .s 23],
 p 25 (.load none) [.s 24],
 p 26 (.bin .neq) [.s 25, .c (.int .i64 2)],
 p 27 .mv [.s 26],
  ⟨28, true, .faddr 1, [.s 4], (some (27, false)), [], []⟩,
  ⟨29, true, .load none, [.s 28], (some (27, false)), [], []⟩,
  ⟨30, true, .mv, [.s 1], (some (27, false)), [], []⟩,
  ⟨31, true, .iaddr 1, [.s 29, .s 30], (some (27, false)), [], []⟩,
  ⟨32, true, .load none, [.s 31], (some (27, false)), [], []⟩,
 p 33 .pick [.s 27, .c (.bool true), .s 32]])
 (.cond (.s 33) (.seq (.reg [
 p 34 (.load (some 2)) [.s 4],
  ⟨503, false, .store 2, [.s 4, .s 34], none, [], []⟩,
 p 5 .mv [.c ff],
 p 6 .mv [.c ff]])
 .ret)
 .skip))
 (.seq (.reg [
 p 35 (.faddr 1) [.s 4],
 p 36 (.load none) [.s 35],
 p 37 .mv [.s 1],
 p 38 (.iaddr 1) [.s 36, .s 37],
  ⟨504, false, .store 1, [.s 38, .c (.bool true)], none, [], []⟩])
 (.seq (.drw [
  ⟨39, true, .load (some 2), [.s 4], none, [4], []⟩,
 p 40 (.faddr 1) [.s 4],
  ⟨41, true, .load none, [.s 40], none, [4], []⟩,
  ⟨42, true, .call 273, [.s 41, .c ff], none, [8], []⟩,
 p 43 (.un .not) [.s 42],
  ⟨505, false, .store 2, [.s 4, .s 39], none, [4, 8], [4]⟩,
 p 5 .mv [.c (.bool true)],
 p 6 .mv [.s 43]])
 .ret)))))))
def F218 : AFun where
  n := 20
  res := [.cell 2 (some 28)]
  code := (.seq (.reg [
 p 1 (.box 28) [.s 0],
 p 2 (.zero [zz, zz, zz, zz, zz, zz, zz, zz, zz, zz, zz, zz, zz, et, ff, zz, zz, zz, zz, zz, zz, zz, zz, zz, et, ff, et, ff]) []])
 (.seq (.drw [
 p 3 (.faddr 4) [.s 1],
 p 4 (.faddr 9) [.s 3],
  ⟨5, true, .load none, [.s 4], none, [1], []⟩,
  ⟨6, true, .call 136, [.s 5], none, [6, 10, 13], [6, 10, 13]⟩,
 p 7 (.faddr 15) [.s 1],
 p 8 (.faddr 9) [.s 7],
  ⟨9, true, .load none, [.s 8], none, [1], []⟩,
  ⟨10, true, .call 136, [.s 9], none, [6, 10, 13], [6, 10, 13]⟩,
 p 11 (.faddr 26) [.s 1],
  ⟨12, true, .load none, [.s 11], none, [1], []⟩,
  ⟨13, true, .call 137, [.s 12], none, [6, 10, 13], [6, 10, 13]⟩,
 p 14 (.faddr 4) [.s 1],
 p 15 (.faddr 9) [.s 14],
  ⟨500, false, .store 1, [.s 15, .s 6], none, [1, 6], [1]⟩,
 p 16 (.faddr 15) [.s 1],
 p 17 (.faddr 9) [.s 16],
  ⟨501, false, .store 1, [.s 17, .s 10], none, [1, 10], [1]⟩,
 p 18 (.faddr 26) [.s 1],
  ⟨502, false, .store 1, [.s 18, .s 13], none, [1, 13], [1]⟩])
 (.seq (.reg [
 p 19 (.load (some 28)) [.s 1],
  ⟨503, false, .store 28, [.s 2, .s 19], none, [], []⟩])
 .ret)))
def F219 : AFun where
  n := 42
  res := [.tmp 4]
  code := (.seq (.reg [
 p 4 .mv [.c et]])
 (.seq (.reg [
 p 8 .mv [.s 0],
 p 9 .mv [.s 1],
 p 10 (.call 274) [.s 8, .s 9],
 p 5 .mv [.s 10]])
 (.seq (.seq (.reg [
 p 11 .mv [.s 5],
 p 12 (.bin .eql) [.s 11, .c (.int .i64 (-1))]])
 (.cond (.s 12) (.seq (.reg [
 p 13 .mv [.s 0],
 p 4 .mv [.s 13]])
 .ret)
 .skip))
 (.seq (.seq (.reg [
 p 14 .mv [.s 5],
 p 15 (.bin .add) [.s 14, .c (.int .i64 1)],
 p 6 .mv [.s 15]])
 (.block 0 (.loop (.seq (.seq (.reg [
 p 16 .mv [.s 6],
 p 17 .mv [.s 0],
 p 18 .len [.s 17],
 p 19 (.bin .lss) [.s 16, .s 18]])
 (.cond (.s 19) .skip
 (.exit 0)))
 (.seq (.block 1 (.seq (.reg [
 p 22 .mv [.s 0],
 p 23 .mv [.s 6],
 p 24 (.iaddr 1) [.s 22, .s 23],
 p 25 (.load none) [.s 24],
 p 7 .mv [.s 25]])
 (.seq (.reg [
 p 26 .mv [.s 1],
 p 27 .mv [.s 7],
 p 28 .callv [.s 26, .s 27],
 p 29 (.un .not) [.s 28]])
 (.cond (.s 29) (.seq (.reg [
 p 30 .mv [.s 0],
 p 31 .mv [.s 5],
 p 32 .mv [.s 7],
 p 33 (.iaddr 1) [.s 30, .s 31],
  ⟨500, false, .store 1, [.s 33, .s 32], none, [], []⟩])
 (.reg [
 p 34 .mv [.s 5],
 p 35 (.bin .add) [.s 34, .c (.int .i64 1)],
 p 5 .mv [.s 35]]))
 .skip))))
 (.reg [
 p 20 .mv [.s 6],
 p 21 (.bin .add) [.s 20, .c (.int .i64 1)],
 p 6 .mv [.s 21]]))))))
 (.seq (.reg [
 p 36 .mv [.s 0],
 p 37 .mv [.s 5],
 p 38 (.slice 1 true false) [.s 36, .s 37],
  ⟨501, false, .clear [zz], [.s 38], none, [], []⟩])
 (.seq (.reg [
 p 39 .mv [.s 0],
 p 40 .mv [.s 5],
 p 41 (.slice 1 false true) [.s 39, .s 40],
 p 4 .mv [.s 41]])
 .ret))))))
def F220 : AFun where
  n := 7
  res := [.tmp 3]
  code := (.seq (.reg [
 p 3 .mv [.c ff]])
 (.seq (.reg [
 p 4 .mv [.s 0],
 p 5 (.load none) [.s 1],
 p 6 (.bin .eql) [.s 4, .s 5],
 p 3 .mv [.s 6]])
 .ret))
def F221 : AFun where
  n := 29
  res := [.cell 6 (some 3)]
  code := (.seq (.reg [
 p 3 (.box 28) [.s 0],
 p 6 (.zero [zz, zz, zz]) []])
 (.seq (.drw [
  ⟨10, true, .load (some 28), [.s 3], none, [3], []⟩,
 p 11 .mv [.s 1],
 p 12 .mv [.s 2],
 p 13 (.call 275) [.s 10, .s 11, .s 12],
 p 14 (.faddr 0) [.s 3],
  ⟨15, true, .load none, [.s 14], none, [3], []⟩,
 p 16 (.build [zz, zz, zz] [(0, 1), (1, 1), (2, 1)]) [.s 13, .c (.int .i64 1), .s 15],
 p 7 (.zero [zz, zz, zz]) [],
  ⟨500, false, .store 3, [.s 7, .s 16], none, [7], [7]⟩])
 (.seq (.seq (.reg [
 p 18 .mv [.s 2],
 p 19 (.faddr 26) [.s 3],
 p 20 (.load none) [.s 19],
 p 21 (.faddr 0) [.s 3],
 p 22 (.load none) [.s 21],
 p 23 (.call 276) [.s 18, .s 20, .s 22],
 p 17 .mv [.s 23],
 p 24 (.extract 0) [.s 17],
 p 25 (.extract 1) [.s 17],
 p 8 .mv [.s 24],
 p 9 .mv [.s 25]])
 (.seq (.reg [
 p 26 .mv [.s 9]])
 (.cond (.s 26) (.reg [
 p 27 (.faddr 1) [.s 7],
  ⟨501, false, .store 1, [.s 27, .c zz], none, [], []⟩])
 .skip)))
 (.seq (.reg [
 p 28 (.load (some 3)) [.s 7],
  ⟨502, false, .store 3, [.s 6, .s 28], none, [], []⟩])
 .ret))))
def F222 : AFun where
  n := 42
  res := [.tmp 2]
  code := (.seq (.reg [
 p 2 .mv [.c zz]])
 (.seq (.reg [
 p 10 .mv [.s 0],
 p 11 (.iaddr 3) [.s 10, .c zz],
 p 12 (.load (some 3)) [.s 11],
 p 3 (.zero [zz, zz, zz]) [],
  ⟨500, false, .store 3, [.s 3, .s 12], none, [], []⟩,
 p 4 .mv [.c (.int .u64 0)]])
 (.seq (.seq (.reg [
 p 13 .mv [.s 0],
 p 14 .len [.s 13],
 p 15 .mv [.c zz]])
 (.block 0 (.loop (.seq (.reg [
 p 16 (.bin .lss) [.s 15, .s 14]])
 (.seq (.cond (.s 16) .skip
 (.exit 0))
 (.seq (.block 1 (.seq (.reg [
 p 17 .mv [.s 15],
 p 18 (.iaddr 3) [.s 13, .s 15],
 p 19 (.load (some 3)) [.s 18],
 p 6 (.zero [zz, zz, zz]) [],
 p 5 .mv [.s 17],
  ⟨501, false, .store 3, [.s 6, .s 19], none, [], []⟩])
 (.seq (.reg [
 p 20 (.load (some 3)) [.s 6],
 p 21 (.load (some 3)) [.s 3],
 p 22 (.call 223) [.s 20, .s 21],
 p 7 .mv [.s 22]])
 (.block 2 (.seq (.reg [
 p 24 .mv [.s 7],
 p 25 (.bin .lss) [.s 24, .c zz],
 p 23 .mv [.s 25]])
 (.cond (.s 23) (.drw [
  ⟨26, true, .load (some 3), [.s 6], none, [6], []⟩,
 p 27 .mv [.s 5],
 p 28 (.call 277) [.c (.int .u64 0), .s 27],
  ⟨502, false, .store 3, [.s 3, .s 26], none, [3], [3]⟩,
 p 4 .mv [.s 28]])
 (.seq (.reg [
 p 30 .mv [.s 7],
 p 31 (.bin .eql) [.s 30, .c zz],
 p 29 .mv [.s 31]])
 (.cond (.s 29) (.reg [
 p 32 .mv [.s 4],
 p 33 .mv [.s 5],
 p 34 (.call 277) [.s 32, .s 33],
 p 4 .mv [.s 34]])
 .skip))))))))
 (.reg [
 p 35 (.bin .add) [.s 15, .c (.int .i64 1)],
 p 15 .mv [.s 35]])))))))
 (.seq (.reg [
 p 37 .mv [.s 4],
 p 38 (.call 278) [.s 37],
 p 36 .mv [.s 38],
 p 39 (.extract 0) [.s 36],
 p 40 (.extract 1) [.s 36],
 p 8 .mv [.s 39],
 p 9 .mv [.s 40]])
 (.seq (.reg [
 p 41 .mv [.s 8],
 p 2 .mv [.s 41]])
 .ret)))))
def F223 : AFun where
  n := 22
  res := [.tmp 4]
  code := (.seq (.reg [
 p 2 (.box 3) [.s 0],
 p 3 (.box 3) [.s 1],
 p 4 .mv [.c zz]])
 (.seq (.drw [
 p 5 (.faddr 0) [.s 2],
  ⟨6, true, .load none, [.s 5], none, [2], []⟩,
 p 7 (.faddr 0) [.s 3],
  ⟨8, true, .load none, [.s 7], none, [3], []⟩,
 p 9 (.call 280) [.s 6, .s 8],
 p 10 (.faddr 1) [.s 2],
  ⟨11, true, .load none, [.s 10], none, [2], []⟩,
 p 12 (.faddr 1) [.s 3],
  ⟨13, true, .load none, [.s 12], none, [3], []⟩,
 p 14 (.call 280) [.s 11, .s 13],
 p 15 (.faddr 2) [.s 2],
  ⟨16, true, .load none, [.s 15], none, [2], []⟩,
 p 17 (.faddr 2) [.s 3],
  ⟨18, true, .load none, [.s 17], none, [3], []⟩,
 p 19 (.call 280) [.s 16, .s 18],
 p 20 (.buildSl 1 [zz] 3 [0, 1, 2]) [.s 9, .s 14, .s 19],
  ⟨21, true, .call 279, [.s 20], none, [20], []⟩,
 p 4 .mv [.s 21]])
 .ret))
def F224 : AFun where
  n := 70
  res := [.cell 4 (some 28), .cell 5 (some 4), .tmp 6]
  code := (.seq (.reg [
 p 2 (.box 6) [.s 0],
 p 3 (.box 28) [.s 1],
 p 4 (.zero [zz, zz, zz, zz, zz, zz, zz, zz, zz, zz, zz, zz, zz, et, ff, zz, zz, zz, zz, zz, zz, zz, zz, zz, et, ff, et, ff]) [],
 p 5 (.zero [zz, zz, zz, zz]) [],
 p 6 .mv [.c ff]])
 (.seq (.reg [
 p 9 (.load (some 28)) [.s 3],
 p 10 (.call 281) [.s 9],
  ⟨500, false, .store 28, [.s 4, .s 10], none, [], []⟩])
 (.seq (.drw [
  ⟨12, true, .load (some 6), [.s 2], none, [2], []⟩,
  ⟨13, true, .load (some 28), [.s 3], none, [3], []⟩,
 p 14 (.call 283) [.s 12, .s 13],
 p 15 (.faddr 4) [.s 3],
  ⟨16, true, .load (some 11), [.s 15], none, [3], []⟩,
  ⟨17, true, .call 282, [.s 14, .s 16], none, [14], [14]⟩,
 p 11 .mv [.s 17],
 p 18 (.extract 0) [.s 11],
 p 19 (.extract 1) [.s 11],
 p 20 (.extract 2) [.s 11],
 p 7 (.zero [zz, zz, zz, zz, zz, zz, zz, zz, zz, et, ff]) [],
  ⟨501, false, .store 11, [.s 7, .s 18], none, [7, 17], [7]⟩,
  ⟨502, false, .store 4, [.s 5, .s 19], none, [5], [5]⟩,
 p 6 .mv [.s 20]])
 (.seq (.seq (.reg [
 p 21 .mv [.s 6],
 p 22 (.un .not) [.s 21]])
 (.cond (.s 22) (.seq (.reg [
 p 23 (.load (some 28)) [.s 4],
 p 24 (.build [zz, zz, zz, zz] []) [],
  ⟨503, false, .store 28, [.s 4, .s 23], none, [], []⟩,
  ⟨504, false, .store 4, [.s 5, .s 24], none, [], []⟩,
 p 6 .mv [.c ff]])
 .ret)
 .skip))
 (.seq (.reg [
 p 25 (.load (some 11)) [.s 7],
 p 26 (.faddr 4) [.s 4],
  ⟨505, false, .store 11, [.s 26, .s 25], none, [], []⟩])
 (.seq (.seq (.reg [
 p 27 (.faddr 0) [.s 5],
 p 28 (.load none) [.s 27]])
 (.block 0 (.seq (.reg [
 p 30 (.bin .eql) [.s 28, .c (.int .i64 11)],
 p 29 .mv [.s 30]])
 (.cond (.s 29) (.reg [
 p 31 (.load (some 11)) [.s 7],
 p 32 (.call 284) [.s 31],
 p 33 (.faddr 15) [.s 4],
  ⟨506, false, .store 11, [.s 33, .s 32], none, [], []⟩])
 (.seq (.reg [
 p 35 (.bin .eql) [.s 28, .c (.int .i64 9)],
 p 34 .mv [.s 35]])
 (.cond (.s 34) (.reg [
 p 36 (.faddr 26) [.s 4],
 p 37 (.load none) [.s 36],
 p 38 (.faddr 1) [.s 5],
 p 39 (.load none) [.s 38],
 p 40 (.buildSl 1 [zz] 1 [0]) [.s 39],
 p 41 (.app 1 8 [zz]) [.s 37, .s 40],
 p 42 (.faddr 26) [.s 4],
  ⟨507, false, .store 1, [.s 42, .s 41], none, [], []⟩])
 (.seq (.reg [
 p 44 (.bin .eql) [.s 28, .c (.int .i64 10)],
 p 43 .mv [.s 44]])
 (.cond (.s 43) (.seq (.reg [
 p 45 (.faddr 26) [.s 4],
 p 46 (.load none) [.s 45],
 p 47 .len [.s 46],
 p 48 (.bin .sub) [.s 47, .c (.int .i64 1)],
 p 8 .mv [.s 48]])
 (.block 1 (.loop (.seq (.seq (.reg [
 p 49 .mv [.s 8],
 p 50 (.bin .geq) [.s 49, .c zz]])
 (.cond (.s 50) .skip
 (.exit 1)))
 (.seq (.block 2 (.seq (.drw [
 p 53 (.faddr 26) [.s 4],
  ⟨54, true, .load none, [.s 53], none, [4], []⟩,
 p 55 .mv [.s 8],
  ⟨56, true, .iaddr 1, [.s 54, .s 55], none, [10, 17, 32, 40, 41, 66], []⟩,
  ⟨57, true, .load none, [.s 56], none, [10, 17, 32, 40, 41, 66], []⟩,
 p 58 (.faddr 1) [.s 5],
  ⟨59, true, .load none, [.s 58], none, [5], []⟩,
 p 60 (.bin .eql) [.s 57, .s 59]])
 (.cond (.s 60) (.seq (.reg [
 p 61 (.faddr 26) [.s 4],
 p 62 (.load none) [.s 61],
 p 63 .mv [.s 8],
 p 64 .mv [.s 8],
 p 65 (.bin .add) [.s 64, .c (.int .i64 1)],
 p 66 (.call 285) [.s 62, .s 63, .s 65],
 p 67 (.faddr 26) [.s 4],
  ⟨508, false, .store 1, [.s 67, .s 66], none, [], []⟩])
 (.exit 1))
 .skip)))
 (.reg [
 p 51 .mv [.s 8],
 p 52 (.bin .sub) [.s 51, .c (.int .i64 1)],
 p 8 .mv [.s 52]]))))))
 .skip))))))))
 (.seq (.drw [
  ⟨68, true, .load (some 28), [.s 4], none, [4], []⟩,
  ⟨69, true, .load (some 4), [.s 5], none, [5], []⟩,
  ⟨509, false, .store 28, [.s 4, .s 68], none, [4, 10, 17, 32, 40, 41, 66], [4]⟩,
  ⟨510, false, .store 4, [.s 5, .s 69], none, [5], [5]⟩,
 p 6 .mv [.c (.bool true)]])
 .ret)))))))
def F225 : AFun where
  n := 31
  res := [.tmp 6, .tmp 7]
  code := (.seq (.reg [
 p 6 .mv [.c et],
 p 7 .mv [.c ff]])
 (.seq (.reg [
 p 9 .mv [.s 0],
 p 10 (.call 270) [.s 9],
 p 8 .mv [.s 10]])
 (.seq (.seq (.reg [
 p 11 .mv [.s 0],
 p 12 .mv [.s 1],
 p 13 (.call 286) [.s 11, .s 12],
 p 14 (.un .not) [.s 13],
 p 15 .mv [.s 14],
  ⟨16, true, .mv, [.s 0], (some (15, false)), [], []⟩,
  ⟨17, true, .mv, [.s 1], (some (15, false)), [], []⟩,
  ⟨18, true, .iaddr 2, [.s 16, .s 17], (some (15, false)), [], []⟩,
  ⟨19, true, .faddr 1, [.s 18], (some (15, false)), [], []⟩,
  ⟨20, true, .load none, [.s 19], (some (15, false)), [], []⟩,
  ⟨21, true, .bin .neq, [.s 20, .c zz], (some (15, false)), [], []⟩,
 p 22 .pick [.s 15, .c (.bool true), .s 21]])
 (.cond (.s 22) (.seq (.reg [
 p 23 .mv [.s 8],
 p 6 .mv [.s 23],
 p 7 .mv [.c ff]])
 .ret)
 .skip))
 (.seq (.reg [
 p 24 .mv [.s 8],
 p 25 .mv [.s 1],
 p 26 .mv [.s 2],
 p 27 (.bin .add) [.s 26, .c (.int .i64 1)],
 p 28 (.iaddr 2) [.s 24, .s 25],
 p 29 (.faddr 1) [.s 28],
  ⟨500, false, .store 1, [.s 29, .s 27], none, [], []⟩])
 (.seq (.reg [
 p 30 .mv [.s 8],
 p 6 .mv [.s 30],
 p 7 .mv [.c (.bool true)]])
 .ret)))))
def F226 : AFun where
  n := 22
  res := [.tmp 6, .tmp 7]
  code := (.seq (.reg [
 p 6 .mv [.c et],
 p 7 .mv [.c ff]])
 (.seq (.reg [
 p 9 .mv [.s 0],
 p 10 (.call 270) [.s 9],
 p 8 .mv [.s 10]])
 (.seq (.seq (.reg [
 p 11 .mv [.s 0],
 p 12 .mv [.s 1],
 p 13 .mv [.s 2],
 p 14 (.call 271) [.s 11, .s 12, .s 13],
 p 15 (.un .not) [.s 14]])
 (.cond (.s 15) (.seq (.reg [
 p 16 .mv [.s 8],
 p 6 .mv [.s 16],
 p 7 .mv [.c ff]])
 .ret)
 .skip))
 (.seq (.reg [
 p 17 .mv [.s 8],
 p 18 .mv [.s 1],
 p 19 (.iaddr 2) [.s 17, .s 18],
 p 20 (.faddr 1) [.s 19],
  ⟨500, false, .store 1, [.s 20, .c zz], none, [], []⟩])
 (.seq (.reg [
 p 21 .mv [.s 8],
 p 6 .mv [.s 21],
 p 7 .mv [.c (.bool true)]])
 .ret)))))
def F227 : AFun where
  n := 95
  res := [.tmp 4]
  code := (.seq (.reg [
 p 4 .mv [.c ff]])
 (.seq (.reg [
 p 6 .mv [.s 1],
 p 7 .nilck [.s 6],
 p 8 (.faddr 4) [.s 7],
 p 9 (.faddr 1) [.s 8],
 p 10 (.iaddrA 8 1) [.s 9, .c zz],
 p 11 (.load none) [.s 10],
 p 5 .mv [.s 11]])
 (.seq (.seq (.reg [
 p 12 .mv [.s 1],
 p 13 .nilck [.s 12],
 p 14 (.faddr 3) [.s 13],
 p 15 (.load none) [.s 14],
 p 16 (.bin .eql) [.s 15, .c (.int .i64 2)]])
 (.cond (.s 16) (.seq (.reg [
 p 17 .mv [.s 0],
 p 18 .mv [.s 1],
 p 19 .nilck [.s 18],
 p 20 (.faddr 0) [.s 19],
 p 21 (.load none) [.s 20],
 p 22 .mv [.s 5],
 p 23 (.build [zz, zz, zz, zz, zz, zz] [(1, 1), (2, 1), (4, 1)]) [.c (.int .i64 4), .s 21, .s 22],
 p 24 (.call 139) [.s 17, .s 23]])
 (.seq (.reg [
 p 4 .mv [.c (.bool true)]])
 .ret))
 .skip))
 (.seq (.reg [
 p 25 .mv [.s 0],
 p 26 .mv [.s 1],
 p 27 .nilck [.s 26],
 p 28 (.faddr 0) [.s 27],
 p 29 (.load none) [.s 28],
 p 30 .mv [.s 5],
 p 31 (.build [zz, zz, zz, zz, zz, zz] [(1, 1), (2, 1), (4, 1)]) [.c (.int .i64 3), .s 29, .s 30],
 p 32 (.call 139) [.s 25, .s 31]])
 (.seq (.seq (.drw [
 p 33 .mv [.s 1],
 p 34 .nilck [.s 33],
 p 35 (.faddr 3) [.s 34],
  ⟨36, true, .load none, [.s 35], none, [1], []⟩,
 p 37 (.bin .eql) [.s 36, .c zz],
 p 38 .mv [.s 37],
  ⟨39, true, .mv, [.s 0], (some (38, true)), [], []⟩,
  ⟨40, true, .nilck, [.s 39], (some (38, true)), [], []⟩,
  ⟨41, true, .faddr 0, [.s 40], (some (38, true)), [], []⟩,
  ⟨42, true, .faddr 2, [.s 41], (some (38, true)), [], []⟩,
  ⟨43, true, .load none, [.s 42], (some (38, true)), [0], []⟩,
  ⟨44, true, .mv, [.s 1], (some (38, true)), [], []⟩,
  ⟨45, true, .nilck, [.s 44], (some (38, true)), [], []⟩,
  ⟨46, true, .faddr 0, [.s 45], (some (38, true)), [], []⟩,
  ⟨47, true, .load none, [.s 46], (some (38, true)), [1], []⟩,
  ⟨48, true, .iaddr 6, [.s 43, .s 47], (some (38, true)), [0, 24, 32, 60, 71], []⟩,
  ⟨49, true, .faddr 4, [.s 48], (some (38, true)), [], []⟩,
  ⟨50, true, .load none, [.s 49], (some (38, true)), [0, 24, 32, 60, 71], []⟩,
  ⟨51, true, .len, [.s 50], (some (38, true)), [], []⟩,
  ⟨52, true, .bin .gtr, [.s 51, .c zz], (some (38, true)), [], []⟩,
 p 53 .pick [.s 38, .s 52, .c ff]])
 (.cond (.s 53) (.reg [
 p 54 .mv [.s 0],
 p 55 .mv [.s 1],
 p 56 .nilck [.s 55],
 p 57 (.faddr 0) [.s 56],
 p 58 (.load none) [.s 57],
 p 59 (.build [zz, zz, zz, zz, zz, zz] [(1, 1), (2, 1)]) [.c (.int .i64 8), .s 58],
 p 60 (.call 139) [.s 54, .s 59]])
 .skip))
 (.seq (.drw [
 p 61 .mv [.s 0],
 p 62 .mv [.s 0],
 p 63 .nilck [.s 62],
 p 64 (.faddr 0) [.s 63],
 p 65 (.faddr 11) [.s 64],
  ⟨66, true, .load (some 2), [.s 65], none, [0], []⟩,
 p 67 .mv [.s 1],
 p 68 .nilck [.s 67],
 p 69 (.faddr 0) [.s 68],
  ⟨70, true, .load none, [.s 69], none, [1], []⟩,
  ⟨71, true, .call 138, [.s 66, .s 70], none, [0, 24, 32, 60, 71], [0, 24, 32, 60, 71]⟩,
 p 72 .nilck [.s 61],
 p 73 (.faddr 0) [.s 72],
 p 74 (.faddr 11) [.s 73],
  ⟨500, false, .store 2, [.s 74, .s 71], none, [0, 71], [0]⟩])
 (.seq (.reg [
 p 75 .mv [.s 1],
 p 76 .mv [.s 1],
 p 77 .nilck [.s 76],
 p 78 (.load (some 28)) [.s 77],
 p 79 (.call 287) [.s 78],
 p 80 .nilck [.s 75],
  ⟨501, false, .store 28, [.s 80, .s 79], none, [], []⟩])
 (.seq (.drw [
 p 81 .mv [.s 0],
 p 82 .nilck [.s 81],
 p 83 (.faddr 0) [.s 82],
 p 84 (.faddr 2) [.s 83],
  ⟨85, true, .load none, [.s 84], none, [0], []⟩,
 p 86 .mv [.s 1],
 p 87 .nilck [.s 86],
 p 88 (.faddr 0) [.s 87],
  ⟨89, true, .load none, [.s 88], none, [1], []⟩,
  ⟨90, true, .iaddr 6, [.s 85, .s 89], none, [0, 24, 32, 60, 71], []⟩,
 p 91 (.faddr 5) [.s 90],
  ⟨92, true, .load none, [.s 91], none, [0, 24, 32, 60, 71], []⟩,
 p 93 .len [.s 92],
 p 94 (.bin .eql) [.s 93, .c zz],
 p 4 .mv [.s 94]])
 .ret))))))))
def F228 : AFun where
  n := 31
  res := [.cell 6 (some 28), .tmp 7, .tmp 8]
  code := (.seq (.reg [
 p 3 (.box 6) [.s 0],
 p 4 (.box 28) [.s 1],
 p 6 (.zero [zz, zz, zz, zz, zz, zz, zz, zz, zz, zz, zz, zz, zz, et, ff, zz, zz, zz, zz, zz, zz, zz, zz, zz, et, ff, et, ff]) [],
 p 7 .mv [.c et],
 p 8 .mv [.c zz]])
 (.seq (.drw [
  ⟨9, true, .load (some 6), [.s 3], none, [3], []⟩,
  ⟨10, true, .load (some 28), [.s 4], none, [4], []⟩,
 p 11 (.call 288) [.s 9, .s 10],
 p 12 .mv [.s 2],
 p 13 (.faddr 0) [.s 4],
  ⟨14, true, .load none, [.s 13], none, [4], []⟩,
 p 15 (.call 216) [.s 12, .s 14],
  ⟨500, false, .store 28, [.s 6, .s 11], none, [6, 11], [6]⟩,
 p 7 .mv [.s 15],
 p 8 .mv [.c (.int .i64 6)]])
 (.seq (.block 0 (.seq (.reg [
 p 17 (.faddr 3) [.s 4],
 p 18 (.load none) [.s 17],
 p 19 (.bin .eql) [.s 18, .c (.int .i64 2)],
 p 16 .mv [.s 19]])
 (.cond (.s 16) (.reg [
 p 20 (.load (some 28)) [.s 4],
 p 21 (.call 218) [.s 20],
  ⟨501, false, .store 28, [.s 6, .s 21], none, [], []⟩,
 p 8 .mv [.c (.int .i64 13)]])
 (.seq (.reg [
 p 23 (.faddr 3) [.s 6],
 p 24 (.load none) [.s 23],
 p 25 (.faddr 3) [.s 4],
 p 26 (.load none) [.s 25],
 p 27 (.bin .neq) [.s 24, .s 26],
 p 22 .mv [.s 27]])
 (.cond (.s 22) (.reg [
 p 8 .mv [.c (.int .i64 7)]])
 .skip)))))
 (.seq (.reg [
 p 28 (.load (some 28)) [.s 6],
 p 29 .mv [.s 7],
 p 30 .mv [.s 8],
  ⟨502, false, .store 28, [.s 6, .s 28], none, [], []⟩,
 p 7 .mv [.s 29],
 p 8 .mv [.s 30]])
 .ret))))
def F229 : AFun := cloneOf 1 8 [zz]
def F230 : AFun where
  n := 14
  res := []
  code := (.seq (.reg [
 p 4 .mv [.s 0],
 p 5 .mv [.s 1],
 p 6 (.slice 28 false true) [.s 4, .s 5],
 p 7 (.call 289) [.s 6]])
 (.seq (.reg [
 p 8 .mv [.s 0],
 p 9 .mv [.s 1],
 p 10 (.slice 28 true false) [.s 8, .s 9],
 p 11 (.call 289) [.s 10]])
 (.reg [
 p 12 .mv [.s 0],
 p 13 (.call 289) [.s 12]])))
def F246 : AFun where
  n := 9
  res := [.tmp 2]
  code := (.seq (.reg [
 p 2 .mv [.c ff]])
 (.seq (.reg [
 p 3 .mv [.s 0],
 p 4 (.bin .geq) [.s 3, .c zz],
 p 5 .mv [.s 4],
  ⟨6, true, .mv, [.s 0], (some (5, true)), [], []⟩,
  ⟨7, true, .bin .lss, [.s 6, .c (.int .i64 8)], (some (5, true)), [], []⟩,
 p 8 .pick [.s 5, .s 7, .c ff],
 p 2 .mv [.s 8]])
 .ret))
def F247 : AFun where
  n := 15
  res := [.tmp 6]
  code := (.seq (.reg [
 p 6 .mv [.c ff]])
 (.seq (.reg [
 p 7 .mv [.s 0],
 p 8 .mv [.s 1],
 p 9 (.bin .geq) [.s 7, .s 8],
 p 10 .mv [.s 9],
  ⟨11, true, .mv, [.s 0], (some (10, true)), [], []⟩,
  ⟨12, true, .mv, [.s 2], (some (10, true)), [], []⟩,
  ⟨13, true, .bin .leq, [.s 11, .s 12], (some (10, true)), [], []⟩,
 p 14 .pick [.s 10, .s 13, .c ff],
 p 6 .mv [.s 14]])
 .ret))
def F248 : AFun where
  n := 66
  res := [.tmp 2]
  code := (.seq (.reg [
 p 2 .mv [.c ff]])
 (.seq (.seq (.reg [
 p 9 .mv [.s 0],
 p 10 .len [.s 9],
 p 11 (.bin .lss) [.s 10, .c (.int .i64 1)],
 p 12 .mv [.s 11],
  ⟨13, true, .mv, [.s 0], (some (12, false)), [], []⟩,
  ⟨14, true, .len, [.s 13], (some (12, false)), [], []⟩,
  ⟨15, true, .bin .gtr, [.s 14, .c (.int .i64 24)], (some (12, false)), [], []⟩,
 p 16 .pick [.s 12, .c (.bool true), .s 15],
 p 17 .mv [.s 16],
  ⟨18, true, .mv, [.s 0], (some (17, false)), [], []⟩,
  ⟨19, true, .call 201, [.s 18, .c (.fn 300 [] [])], (some (17, false)), [], []⟩,
 p 20 .pick [.s 17, .c (.bool true), .s 19]])
 (.cond (.s 20) (.seq (.reg [
 p 2 .mv [.c ff]])
 .ret)
 .skip))
 (.seq (.reg [
 p 21 .mv [.s 0],
 p 22 (.call 260) [.s 21, .c (.fn 301 [] [])],
 p 3 .mv [.s 22]])
 (.seq (.seq (.reg [
 p 23 .mv [.s 3],
 p 24 .mv [.s 0],
 p 25 .len [.s 24],
 p 26 (.bin .sub) [.s 25, .c (.int .i64 1)],
 p 27 (.bin .neq) [.s 23, .s 26],
 p 28 .mv [.s 27],
  ⟨29, true, .mv, [.s 0], (some (28, false)), [], []⟩,
  ⟨30, true, .call 302, [.s 29], (some (28, false)), [], []⟩,
  ⟨31, true, .un .not, [.s 30], (some (28, false)), [], []⟩,
 p 32 .pick [.s 28, .c (.bool true), .s 31]])
 (.cond (.s 32) (.seq (.reg [
 p 2 .mv [.c ff]])
 .ret)
 .skip))
 (.seq (.reg [
 p 34 .mv [.s 0],
 p 35 (.call 303) [.s 34],
 p 33 .mv [.s 35],
 p 36 (.extract 0) [.s 33],
 p 37 (.extract 1) [.s 33],
 p 4 .mv [.s 36],
 p 5 .mv [.s 37]])
 (.seq (.seq (.reg [
 p 38 .mv [.s 5],
 p 39 (.un .not) [.s 38]])
 (.cond (.s 39) (.seq (.reg [
 p 2 .mv [.c ff]])
 .ret)
 .skip))
 (.seq (.reg [
 p 40 .mv [.s 0],
 p 41 (.call 304) [.s 40],
 p 6 .mv [.s 41]])
 (.seq (.seq (.reg [
 p 42 .mv [.s 0],
 p 43 .len [.s 42],
 p 44 .mv [.c zz]])
 (.block 0 (.loop (.seq (.reg [
 p 45 (.bin .lss) [.s 44, .s 43]])
 (.seq (.cond (.s 45) .skip
 (.exit 0))
 (.seq (.block 1 (.seq (.reg [
 p 46 .mv [.s 44],
 p 47 (.iaddr 4) [.s 42, .s 44],
 p 48 (.load (some 4)) [.s 47],
 p 7 (.zero [zz]) [],
 p 8 (.zero [zz, zz, zz, zz]) [],
  ⟨500, false, .store 1, [.s 7, .s 46], none, [], []⟩,
  ⟨501, false, .store 4, [.s 8, .s 48], none, [], []⟩])
 (.seq (.seq (.reg [
 p 49 (.faddr 0) [.s 8],
 p 50 (.load none) [.s 49],
 p 51 (.bin .neq) [.s 50, .c (.int .i64 11)]])
 (.cond (.s 51) (.exit 1)
 .skip))
 (.seq (.reg [
 p 52 .mv [.s 6],
 p 53 (.load none) [.s 7],
 p 54 (.iaddr 24) [.s 52, .s 53],
 p 55 (.load (some 24)) [.s 54],
 p 56 (.build [ff, ff, ff, ff, ff, ff, ff, ff, ff, ff, ff, ff, ff, ff, ff, ff, ff, ff, ff, ff, ff, ff, ff, ff] []) [],
 p 57 (.eqv true [none, none, none, none, none, none, none, none, none, none, none, none, none, none, none, none, none, none, none, none, none, none, none, none] true) [.s 55, .s 56],
 p 58 .mv [.s 57],
  ⟨59, true, .mv, [.s 4], (some (58, false)), [], []⟩,
  ⟨60, true, .load none, [.s 7], (some (58, false)), [], []⟩,
  ⟨61, true, .slice 1 false true, [.s 59, .s 60], (some (58, false)), [], []⟩,
  ⟨62, true, .mkfn 306 0, [.s 7], (some (58, false)), [], []⟩,
  ⟨63, true, .call 305, [.s 61, .s 62], (some (58, false)), [], []⟩,
 p 64 .pick [.s 58, .c (.bool true), .s 63]])
 (.cond (.s 64) (.seq (.reg [
 p 2 .mv [.c ff]])
 .ret)
 .skip)))))
 (.reg [
 p 65 (.bin .add) [.s 44, .c (.int .i64 1)],
 p 44 .mv [.s 65]])))))))
 (.seq (.reg [
 p 2 .mv [.c (.bool true)]])
 .ret)))))))))
def F249 : AFun where
  n := 10
  res := [.tmp 2]
  code := (.seq (.reg [
 p 2 .mv [.c ff]])
 (.seq (.reg [
 p 3 .mv [.s 0],
 p 4 .len [.s 3],
 p 5 (.bin .eql) [.s 4, .c zz],
 p 6 .mv [.s 5],
  ⟨7, true, .mv, [.s 0], (some (6, false)), [], []⟩,
  ⟨8, true, .call 248, [.s 7], (some (6, false)), [], []⟩,
 p 9 .pick [.s 6, .c (.bool true), .s 8],
 p 2 .mv [.s 9]])
 .ret))
def F250 : AFun where
  n := 5
  res := [.tmp 2]
  code := (.seq (.reg [
 p 2 .mv [.c ff]])
 (.seq (.reg [
 p 3 .mv [.s 0],
 p 4 (.call 201) [.s 3, .c (.fn 307 [] [])],
 p 2 .mv [.s 4]])
 .ret))
def F251 : AFun where
  n := 12
  res := [.tmp 2]
  code := (.seq (.reg [
 p 2 .mv [.c zz]])
 (.seq (.reg [
 p 6 .mv [.s 0],
 p 7 (.call 308) [.s 6],
 p 5 .mv [.s 7],
 p 8 (.extract 0) [.s 5],
 p 9 (.extract 1) [.s 5],
 p 3 (.zero [zz, zz, et]) [],
  ⟨500, false, .store 3, [.s 3, .s 8], none, [], []⟩,
 p 4 .mv [.s 9]])
 (.seq (.reg [
 p 10 (.faddr 0) [.s 3],
 p 11 (.load none) [.s 10],
 p 2 .mv [.s 11]])
 .ret)))
def F253 : AFun where
  n := 10
  res := []
  code := (.reg [
 p 4 .mv [.s 0],
 p 5 .mv [.s 0],
 p 6 .len [.s 5],
 p 7 .mv [.s 1],
 p 8 (.bin .sub) [.s 6, .s 7],
 p 9 (.call 309) [.s 4, .s 8]])
def F254 : AFun where
  n := 128
  res := [.tmp 6, .tmp 7, .tmp 8]
  code := (.seq (.reg [
 p 6 .mv [.c zz],
 p 7 .mv [.c zz],
 p 8 .mv [.c zz]])
 (.seq (.seq (.reg [
 p 25 .mv [.s 0],
 p 26 (.call 310) [.s 25],
 p 27 (.un .not) [.s 26],
 p 28 .mv [.s 27],
  ⟨29, true, .mv, [.s 1], (some (28, false)), [], []⟩,
  ⟨30, true, .bin .lss, [.s 29, .c zz], (some (28, false)), [], []⟩,
 p 31 .pick [.s 28, .c (.bool true), .s 30],
 p 32 .mv [.s 31],
  ⟨33, true, .mv, [.s 1], (some (32, false)), [], []⟩,
  ⟨34, true, .mv, [.s 0], (some (32, false)), [], []⟩,
  ⟨35, true, .len, [.s 34], (some (32, false)), [], []⟩,
  ⟨36, true, .bin .geq, [.s 33, .s 35], (some (32, false)), [], []⟩,
 p 37 .pick [.s 32, .c (.bool true), .s 36],
 p 38 .mv [.s 37],
  ⟨39, true, .mv, [.s 2], (some (38, false)), [], []⟩,
  ⟨40, true, .bin .lss, [.s 39, .c (.int .i64 1)], (some (38, false)), [], []⟩,
 p 41 .pick [.s 38, .c (.bool true), .s 40]])
 (.cond (.s 41) (.seq (.reg [
 p 6 .mv [.c zz],
 p 7 .mv [.c zz],
 p 8 .mv [.c (.int .i64 1)]])
 .ret)
 .skip))
 (.seq (.reg [
 p 43 .mv [.s 0],
 p 44 .mv [.s 1],
 p 45 (.iaddr 6) [.s 43, .s 44],
 p 46 (.load (some 6)) [.s 45],
 p 47 (.call 255) [.s 46],
 p 42 .mv [.s 47],
 p 48 (.extract 0) [.s 42],
 p 49 (.extract 1) [.s 42],
 p 50 (.extract 2) [.s 42],
 p 9 .mv [.s 48],
 p 10 .mv [.s 49],
 p 11 .mv [.s 50]])
 (.seq (.reg [
 p 12 .mv [.c zz]])
 (.seq (.seq (.reg [
 p 51 .mv [.s 0],
 p 52 .mv [.s 1],
 p 53 (.bin .add) [.s 52, .c (.int .i64 1)],
 p 54 (.slice 6 false true) [.s 51, .s 53],
 p 55 .len [.s 54],
 p 56 .mv [.c zz]])
 (.block 0 (.loop (.seq (.reg [
 p 57 (.bin .lss) [.s 56, .s 55]])
 (.seq (.cond (.s 57) .skip
 (.exit 0))
 (.seq (.block 1 (.seq (.reg [
 p 58 (.iaddr 6) [.s 54, .s 56],
 p 59 (.load (some 6)) [.s 58],
 p 14 (.zero [zz, zz, zz, et, et, et]) [],
  ⟨500, false, .store 6, [.s 14, .s 59], none, [], []⟩])
 (.seq (.reg [
 p 61 (.load (some 6)) [.s 14],
 p 62 (.call 255) [.s 61],
 p 60 .mv [.s 62],
 p 63 (.extract 0) [.s 60],
 p 64 (.extract 1) [.s 60],
 p 65 (.extract 2) [.s 60],
 p 15 .mv [.s 63],
 p 16 .mv [.s 64],
 p 17 .mv [.s 65]])
 (.reg [
 p 66 .mv [.s 12],
 p 67 .mv [.s 16],
 p 68 .most [.s 66, .s 67],
 p 12 .mv [.s 68]]))))
 (.reg [
 p 69 (.bin .add) [.s 56, .c (.int .i64 1)],
 p 56 .mv [.s 69]])))))))
 (.seq (.reg [
 p 70 .mv [.s 9],
 p 71 (.build [zz, ff] [(0, 1)]) [.s 70],
 p 18 (.zero [zz, ff]) [],
  ⟨501, false, .store 2, [.s 18, .s 71], none, [], []⟩])
 (.seq (.reg [
 p 72 .mv [.s 0],
 p 73 .mv [.s 1],
 p 74 (.call 256) [.s 72, .s 73],
 p 75 (.call 311) [.s 18, .c (.int .i64 1), .s 74]])
 (.seq (.reg [
 p 76 (.faddr 0) [.s 18],
 p 77 (.load none) [.s 76],
 p 6 .mv [.s 77]])
 (.block 2 (.loop (.block 3 (.seq (.reg [
 p 78 .mv [.s 7],
 p 79 (.bin .add) [.s 78, .c (.int .i64 1)],
 p 7 .mv [.s 79]])
 (.seq (.reg [
 p 80 (.load (some 2)) [.s 18],
 p 19 (.zero [zz, ff]) [],
  ⟨502, false, .store 2, [.s 19, .s 80], none, [], []⟩])
 (.seq (.reg [
 p 81 .mv [.s 6],
 p 82 .mv [.s 2],
 p 83 (.call 312) [.s 81, .s 82],
 p 84 .mv [.s 12],
 p 85 (.call 311) [.s 19, .s 83, .s 84]])
 (.seq (.seq (.reg [
 p 86 .mv [.s 0],
 p 87 .mv [.s 1],
 p 88 (.slice 6 false true) [.s 86, .s 87],
 p 89 .len [.s 88],
 p 90 .mv [.c zz]])
 (.block 4 (.loop (.seq (.reg [
 p 91 (.bin .lss) [.s 90, .s 89]])
 (.seq (.cond (.s 91) .skip
 (.exit 4))
 (.seq (.block 5 (.seq (.reg [
 p 92 (.iaddr 6) [.s 88, .s 90],
 p 93 (.load (some 6)) [.s 92],
 p 21 (.zero [zz, zz, zz, et, et, et]) [],
  ⟨503, false, .store 6, [.s 21, .s 93], none, [], []⟩])
 (.seq (.reg [
 p 95 (.load (some 6)) [.s 21],
 p 96 (.call 255) [.s 95],
 p 94 .mv [.s 96],
 p 97 (.extract 0) [.s 94],
 p 98 (.extract 1) [.s 94],
 p 99 (.extract 2) [.s 94],
 p 22 .mv [.s 97],
 p 23 .mv [.s 98],
 p 24 .mv [.s 99]])
 (.reg [
 p 100 .mv [.s 6],
 p 101 (.faddr 1) [.s 21],
 p 102 (.load none) [.s 101],
 p 103 (.call 312) [.s 100, .s 102],
 p 104 .mv [.s 22],
 p 105 (.call 311) [.s 19, .s 103, .s 104]]))))
 (.reg [
 p 106 (.bin .add) [.s 90, .c (.int .i64 1)],
 p 90 .mv [.s 106]])))))))
 (.seq (.block 6 (.seq (.reg [
 p 108 (.faddr 1) [.s 19],
 p 109 (.load none) [.s 108],
 p 107 .mv [.s 109]])
 (.cond (.s 107) (.seq (.reg [
 p 6 .mv [.c zz],
 p 7 .mv [.c zz],
 p 8 .mv [.c (.int .i64 13)]])
 .ret)
 (.seq (.drw [
 p 111 (.faddr 0) [.s 19],
  ⟨112, true, .load none, [.s 111], none, [19], []⟩,
 p 113 .mv [.s 0],
 p 114 .mv [.s 1],
 p 115 (.iaddr 6) [.s 113, .s 114],
 p 116 (.faddr 2) [.s 115],
 p 117 (.load none) [.s 116],
 p 118 (.bin .gtr) [.s 112, .s 117],
 p 110 .mv [.s 118]])
 (.cond (.s 110) (.seq (.reg [
 p 6 .mv [.c zz],
 p 7 .mv [.c zz],
 p 8 .mv [.c (.int .i64 14)]])
 .ret)
 (.seq (.reg [
 p 120 (.faddr 0) [.s 19],
 p 121 (.load none) [.s 120],
 p 122 .mv [.s 6],
 p 123 (.bin .eql) [.s 121, .s 122],
 p 119 .mv [.s 123]])
 (.cond (.s 119) (.seq (.reg [
 p 124 .mv [.s 6],
 p 125 .mv [.s 7],
 p 6 .mv [.s 124],
 p 7 .mv [.s 125],
 p 8 .mv [.c zz]])
 .ret)
 .skip)))))))
 (.reg [
 p 126 (.faddr 0) [.s 19],
 p 127 (.load none) [.s 126],
 p 6 .mv [.s 127]])))))))))))))))))
def F255 : AFun where
  n := 38
  res := [.tmp 2, .tmp 3, .tmp 4]
  code := (.seq (.reg [
 p 1 (.box 6) [.s 0],
 p 2 .mv [.c zz],
 p 3 .mv [.c zz],
 p 4 .mv [.c et]])
 (.seq (.seq (.reg [
 p 9 (.load (some 6)) [.s 1],
 p 10 (.call 192) [.s 9],
 p 11 (.bin .neq) [.s 10, .c zz]])
 (.cond (.s 11) (.seq (.reg [
 p 2 .mv [.c zz],
 p 3 .mv [.c zz],
 p 4 .mv [.c et]])
 .ret)
 .skip))
 (.seq (.reg [
 p 13 (.faddr 3) [.s 1],
 p 14 (.load none) [.s 13],
 p 15 (.call 308) [.s 14],
 p 12 .mv [.s 15],
 p 16 (.extract 0) [.s 12],
 p 17 (.extract 1) [.s 12],
 p 5 (.zero [zz, zz, et]) [],
  ⟨500, false, .store 3, [.s 5, .s 16], none, [], []⟩,
 p 6 .mv [.s 17]])
 (.seq (.reg [
 p 19 (.faddr 4) [.s 1],
 p 20 (.load none) [.s 19],
 p 21 (.call 308) [.s 20],
 p 18 .mv [.s 21],
 p 22 (.extract 0) [.s 18],
 p 23 (.extract 1) [.s 18],
 p 7 (.zero [zz, zz, et]) [],
  ⟨501, false, .store 3, [.s 7, .s 22], none, [], []⟩,
 p 8 .mv [.s 23]])
 (.seq (.reg [
 p 24 (.faddr 1) [.s 5],
 p 25 (.load none) [.s 24],
 p 3 .mv [.s 25]])
 (.seq (.seq (.reg [
 p 26 .mv [.s 8]])
 (.cond (.s 26) (.reg [
 p 27 (.faddr 0) [.s 7],
 p 28 (.load none) [.s 27],
 p 3 .mv [.s 28]])
 .skip))
 (.seq (.drw [
 p 29 (.faddr 0) [.s 5],
  ⟨30, true, .load none, [.s 29], none, [5], []⟩,
 p 31 .mv [.s 3],
 p 32 (.faddr 2) [.s 5],
  ⟨33, true, .load none, [.s 32], none, [5], []⟩,
 p 34 (.faddr 2) [.s 7],
  ⟨35, true, .load none, [.s 34], none, [7], []⟩,
  ⟨36, true, .buildSlL 1 [se] 2 [0, 1], [.s 33, .s 35], none, [15, 21], [15, 21]⟩,
  ⟨37, true, .call 313, [.s 36], none, [36], [36]⟩,
 p 2 .mv [.s 30],
 p 3 .mv [.s 31],
 p 4 .mv [.s 37]])
 .ret)))))))
def F256 : AFun where
  n := 70
  res := [.tmp 4]
  code := (.seq (.reg [
 p 4 .mv [.c zz]])
 (.seq (.reg [
 p 15 .mkmap [],
 p 5 .mv [.s 15]])
 (.seq (.seq (.reg [
 p 16 .mv [.s 0],
 p 17 .len [.s 16],
 p 18 .mv [.c zz]])
 (.block 0 (.loop (.seq (.reg [
 p 19 (.bin .lss) [.s 18, .s 17]])
 (.seq (.cond (.s 19) .skip
 (.exit 0))
 (.seq (.block 1 (.seq (.reg [
 p 20 .mv [.s 18],
 p 21 (.iaddr 6) [.s 16, .s 18],
 p 22 (.load (some 6)) [.s 21],
 p 7 (.zero [zz, zz, zz, et, et, et]) [],
 p 6 .mv [.s 20],
  ⟨500, false, .store 6, [.s 7, .s 22], none, [], []⟩])
 (.seq (.seq (.reg [
 p 23 .mv [.s 6],
 p 24 .mv [.s 1],
 p 25 (.bin .eql) [.s 23, .s 24]])
 (.cond (.s 25) (.exit 1)
 .skip))
 (.seq (.reg [
 p 27 (.load (some 6)) [.s 7],
 p 28 (.call 255) [.s 27],
 p 26 .mv [.s 28],
 p 29 (.extract 0) [.s 26],
 p 30 (.extract 1) [.s 26],
 p 31 (.extract 2) [.s 26],
 p 8 .mv [.s 29],
 p 9 .mv [.s 30],
 p 10 .mv [.s 31]])
 (.seq (.reg [
 p 32 .mv [.s 10],
 p 33 .len [.s 32],
 p 34 .mv [.c zz]])
 (.block 2 (.loop (.seq (.reg [
 p 35 (.bin .lss) [.s 34, .s 33]])
 (.seq (.cond (.s 35) .skip
 (.exit 2))
 (.seq (.block 3 (.seq (.reg [
 p 36 (.iaddr 2) [.s 32, .s 34],
 p 37 (.load (some 2)) [.s 36],
 p 12 (.zero [zz, zz]) [],
  ⟨501, false, .store 2, [.s 12, .s 37], none, [], []⟩])
 (.seq (.seq (.reg [
 p 39 .mv [.s 5],
 p 40 (.faddr 0) [.s 12],
 p 41 (.load none) [.s 40],
 p 42 (.build [zz] [(0, 1)]) [.s 41],
 p 43 (.lookup true [some .i64] zz true) [.s 39, .s 42],
 p 38 .mv [.s 43],
 p 44 (.extract 0) [.s 38],
 p 45 (.extract 1) [.s 38],
 p 13 .mv [.s 44],
 p 14 .mv [.s 45]])
 (.seq (.reg [
 p 46 .mv [.s 14],
 p 47 (.un .not) [.s 46]])
 (.cond (.s 47) (.drw [
 p 48 .mv [.s 5],
 p 49 (.faddr 0) [.s 12],
  ⟨50, true, .load none, [.s 49], none, [12], []⟩,
 p 51 (.build [zz] [(0, 1)]) [.s 50],
 p 52 .mv [.s 0],
 p 53 (.faddr 0) [.s 12],
  ⟨54, true, .load none, [.s 53], none, [12], []⟩,
 p 55 (.call 204) [.s 52, .s 54],
  ⟨502, false, .mapset true [some .i64], [.s 48, .s 51, .s 55], none, [15], [15]⟩])
 .skip)))
 (.seq (.reg [
 p 56 .mv [.s 5],
 p 57 (.faddr 0) [.s 12],
 p 58 (.load none) [.s 57],
 p 59 (.build [zz] [(0, 1)]) [.s 58],
 p 60 (.lookup true [some .i64] zz false) [.s 56, .s 59],
 p 61 .mv [.s 1],
 p 62 (.bin .leq) [.s 60, .s 61]])
 (.cond (.s 62) (.reg [
 p 63 .mv [.s 4],
 p 64 (.faddr 1) [.s 12],
 p 65 (.load none) [.s 64],
 p 66 .most [.s 63, .s 65],
 p 4 .mv [.s 66]])
 .skip)))))
 (.reg [
 p 67 (.bin .add) [.s 34, .c (.int .i64 1)],
 p 34 .mv [.s 67]])))))))))))
 (.reg [
 p 68 (.bin .add) [.s 18, .c (.int .i64 1)],
 p 18 .mv [.s 68]])))))))
 (.seq (.reg [
 p 69 .mv [.s 4],
 p 4 .mv [.s 69]])
 .ret))))
def F257 : AFun where
  n := 10
  res := [.cell 2 (some 2)]
  code := (.seq (.reg [
 p 1 (.box 2) [.s 0],
 p 2 (.zero [et, et]) []])
 (.seq (.drw [
 p 3 (.faddr 0) [.s 1],
  ⟨4, true, .load none, [.s 3], none, [1], []⟩,
 p 5 (.call 137) [.s 4],
 p 6 (.faddr 1) [.s 1],
  ⟨7, true, .load none, [.s 6], none, [1], []⟩,
 p 8 (.call 149) [.s 7],
  ⟨9, true, .build [et, et] [(0, 1), (1, 1)], [.s 5, .s 8], none, [5, 8], []⟩,
  ⟨500, false, .store 2, [.s 2, .s 9], none, [2, 5, 8], [2]⟩])
 .ret))
def F258 : AFun where
  n := 19
  res := [.tmp 4]
  code := (.seq (.reg [
 p 4 .mv [.c zz]])
 (.seq (.seq (.reg [
 p 6 .mv [.s 0],
 p 7 .len [.s 6],
 p 8 .mv [.c zz]])
 (.block 0 (.loop (.seq (.reg [
 p 9 (.bin .lss) [.s 8, .s 7]])
 (.seq (.cond (.s 9) .skip
 (.exit 0))
 (.seq (.block 1 (.seq (.reg [
 p 10 .mv [.s 8],
 p 5 .mv [.s 10]])
 (.seq (.reg [
 p 11 .mv [.s 1],
 p 12 .mv [.s 0],
 p 13 .mv [.s 5],
 p 14 (.iaddr 1) [.s 12, .s 13],
 p 15 (.load none) [.s 14],
 p 16 (.eqv false [none] false) [.s 11, .s 15]])
 (.cond (.s 16) (.seq (.reg [
 p 17 .mv [.s 5],
 p 4 .mv [.s 17]])
 .ret)
 .skip))))
 (.reg [
 p 18 (.bin .add) [.s 8, .c (.int .i64 1)],
 p 8 .mv [.s 18]])))))))
 (.seq (.reg [
 p 4 .mv [.c (.int .i64 (-1))]])
 .ret)))
def F259 : AFun where
  n := 10
  res := [.tmp 2]
  code := (.seq (.reg [
 p 1 (.box 2) [.s 0],
 p 2 .mv [.c zz]])
 (.seq (.reg [
 p 3 (.faddr 0) [.s 1],
 p 4 (.load none) [.s 3],
 p 5 .len [.s 4],
 p 6 (.faddr 1) [.s 1],
 p 7 (.load none) [.s 6],
 p 8 .len [.s 7],
 p 9 .least [.s 5, .s 8],
 p 2 .mv [.s 9]])
 .ret))
def F260 : AFun where
  n := 19
  res := [.tmp 4]
  code := (.seq (.reg [
 p 4 .mv [.c zz]])
 (.seq (.seq (.reg [
 p 6 .mv [.s 0],
 p 7 .len [.s 6],
 p 8 .mv [.c zz]])
 (.block 0 (.loop (.seq (.reg [
 p 9 (.bin .lss) [.s 8, .s 7]])
 (.seq (.cond (.s 9) .skip
 (.exit 0))
 (.seq (.block 1 (.seq (.reg [
 p 10 .mv [.s 8],
 p 5 .mv [.s 10]])
 (.seq (.reg [
 p 11 .mv [.s 1],
 p 12 .mv [.s 0],
 p 13 .mv [.s 5],
 p 14 (.iaddr 4) [.s 12, .s 13],
 p 15 (.load (some 4)) [.s 14],
 p 16 .callv [.s 11, .s 15]])
 (.cond (.s 16) (.seq (.reg [
 p 17 .mv [.s 5],
 p 4 .mv [.s 17]])
 .ret)
 .skip))))
 (.reg [
 p 18 (.bin .add) [.s 8, .c (.int .i64 1)],
 p 8 .mv [.s 18]])))))))
 (.seq (.reg [
 p 4 .mv [.c (.int .i64 (-1))]])
 .ret)))
def F261 : AFun where
  n := 27
  res := [.tmp 4]
  code := (.seq (.reg [
 p 4 .mv [.c et]])
 (.seq (.seq (.reg [
 p 5 .mv [.s 1],
 p 6 (.bin .lss) [.s 5, .c zz]])
 (.cond (.s 6) (.reg [
 p 7 .bad [],
  ⟨500, false, .bad, [], none, [], []⟩])
 .skip))
 (.seq (.seq (.reg [
 p 8 .mv [.s 1],
 p 9 .mv [.s 0],
 p 10 .capE [.s 9],
 p 11 .mv [.s 0],
 p 12 .len [.s 11],
 p 13 (.bin .sub) [.s 10, .s 12],
 p 14 (.bin .sub) [.s 8, .s 13],
 p 1 .mv [.s 14]])
 (.seq (.reg [
 p 15 .mv [.s 1],
 p 16 (.bin .gtr) [.s 15, .c zz]])
 (.cond (.s 16) (.reg [
 p 17 .mv [.s 0],
 p 18 .mv [.s 0],
 p 19 .capE [.s 18],
 p 20 (.slice 4 false true) [.s 17, .s 19],
 p 21 .mv [.s 1],
 p 22 (.appZ 32 [zz, zz, zz, zz]) [.s 20, .s 21],
 p 23 .mv [.s 0],
 p 24 .len [.s 23],
 p 25 (.slice 4 false true) [.s 22, .s 24],
 p 0 .mv [.s 25]])
 .skip)))
 (.seq (.reg [
 p 26 .mv [.s 0],
 p 4 .mv [.s 26]])
 .ret))))
def F262 : AFun where
  n := 12
  res := [.tmp 3]
  code := (.seq (.reg [
 p 2 (.box 6) [.s 0],
 p 3 .mv [.c ff]])
 (.seq (.reg [
 p 4 (.faddr 3) [.s 2],
 p 5 (.load none) [.s 4],
 p 6 (.faddr 4) [.s 2],
 p 7 (.load none) [.s 6],
 p 8 (.buildSl 1 [se] 2 [0, 1]) [.s 5, .s 7],
 p 9 (.call 202) [.s 8],
 p 10 (.mkfn 263 0) [.s 1],
 p 11 (.call 201) [.s 9, .s 10],
 p 3 .mv [.s 11]])
 .ret))
def F263 : AFun where
  n := 13
  res := [.tmp 3]
  code := (.seq (.reg [
 p 2 (.box 4) [.s 0],
 p 3 .mv [.c ff]])
 (.seq (.reg [
 p 4 (.faddr 0) [.s 2],
 p 5 (.load none) [.s 4],
 p 6 (.bin .eql) [.s 5, .c (.int .i64 9)],
 p 7 .mv [.s 6],
  ⟨8, true, .faddr 1, [.s 2], (some (7, true)), [], []⟩,
  ⟨9, true, .load none, [.s 8], (some (7, true)), [], []⟩,
  ⟨10, true, .load none, [.s 1], (some (7, true)), [], []⟩,
  ⟨11, true, .bin .eql, [.s 9, .s 10], (some (7, true)), [], []⟩,
 p 12 .pick [.s 7, .s 11, .c ff],
 p 3 .mv [.s 12]])
 .ret))
def F264 : AFun where
  n := 9
  res := [.tmp 4]
  code := (.seq (.reg [
 p 2 (.box 2) [.s 0],
 p 3 (.box 2) [.s 1],
 p 4 .mv [.c ff]])
 (.seq (.drw [
  ⟨5, true, .load (some 2), [.s 2], none, [2], []⟩,
 p 6 (.call 314) [.s 5],
  ⟨7, true, .load (some 2), [.s 3], none, [3], []⟩,
  ⟨8, true, .lookup true [some .i64, some .i64] ff false, [.s 6, .s 7], none, [6], []⟩,
 p 4 .mv [.s 8]])
 .ret))
def F265 : AFun := sealF
def F266 : AFun where
  n := 19
  res := [.tmp 4]
  code := (.seq (.reg [
 p 4 .mv [.c zz]])
 (.seq (.seq (.reg [
 p 6 .mv [.s 0],
 p 7 .len [.s 6],
 p 8 .mv [.c zz]])
 (.block 0 (.loop (.seq (.reg [
 p 9 (.bin .lss) [.s 8, .s 7]])
 (.seq (.cond (.s 9) .skip
 (.exit 0))
 (.seq (.block 1 (.seq (.reg [
 p 10 .mv [.s 8],
 p 5 .mv [.s 10]])
 (.seq (.reg [
 p 11 .mv [.s 1],
 p 12 .mv [.s 0],
 p 13 .mv [.s 5],
 p 14 (.iaddr 2) [.s 12, .s 13],
 p 15 (.load (some 2)) [.s 14],
 p 16 .callv [.s 11, .s 15]])
 (.cond (.s 16) (.seq (.reg [
 p 17 .mv [.s 5],
 p 4 .mv [.s 17]])
 .ret)
 .skip))))
 (.reg [
 p 18 (.bin .add) [.s 8, .c (.int .i64 1)],
 p 8 .mv [.s 18]])))))))
 (.seq (.reg [
 p 4 .mv [.c (.int .i64 (-1))]])
 .ret)))
def F267 : AFun where
  n := 8
  res := [.cell 2 (some 2), .tmp 3]
  code := (.seq (.reg [
 p 1 (.box 2) [.s 0],
 p 2 (.zero [et, et]) [],
 p 3 .mv [.c et]])
 (.seq (.reg [
 p 4 (.build [et, et] []) [],
 p 5 (.faddr 1) [.s 1],
 p 6 (.load none) [.s 5],
 p 7 (.call 137) [.s 6],
  ⟨500, false, .store 2, [.s 2, .s 4], none, [], []⟩,
 p 3 .mv [.s 7]])
 .ret))
def F268 : AFun where
  n := 21
  res := [.cell 2 (some 2), .tmp 3]
  code := (.seq (.reg [
 p 1 (.box 2) [.s 0],
 p 2 (.zero [(.int .u32 0), et]) [],
 p 3 .mv [.c et]])
 (.seq (.seq (.reg [
 p 6 (.faddr 1) [.s 1],
 p 7 (.load none) [.s 6],
 p 8 .len [.s 7],
 p 9 .mv [.c zz]])
 (.block 0 (.loop (.seq (.reg [
 p 10 (.bin .lss) [.s 9, .s 8]])
 (.seq (.cond (.s 10) .skip
 (.exit 0))
 (.seq (.block 1 (.seq (.reg [
 p 11 (.iaddr 2) [.s 7, .s 9],
 p 12 (.load (some 2)) [.s 11],
 p 5 (.zero [zz, (.int .u32 0)]) [],
  ⟨500, false, .store 2, [.s 5, .s 12], none, [], []⟩])
 (.reg [
 p 13 .mv [.s 3],
 p 14 (.faddr 0) [.s 5],
 p 15 (.load none) [.s 14],
 p 16 (.buildSl 1 [zz] 1 [0]) [.s 15],
 p 17 (.app 1 8 [zz]) [.s 13, .s 16],
 p 3 .mv [.s 17]])))
 (.reg [
 p 18 (.bin .add) [.s 9, .c (.int .i64 1)],
 p 9 .mv [.s 18]])))))))
 (.seq (.reg [
 p 19 (.load (some 2)) [.s 2],
 p 20 .mv [.s 3],
  ⟨501, false, .store 2, [.s 2, .s 19], none, [], []⟩,
 p 3 .mv [.s 20]])
 .ret)))
def F269 : AFun where
  n := 36
  res := [.tmp 2]
  code := (.seq (.reg [
 p 2 .mv [.c et]])
 (.seq (.reg [
 p 3 .mv [.c zz]])
 (.seq (.seq (.reg [
 p 9 .mv [.s 0],
 p 10 .len [.s 9],
 p 11 .mv [.c zz]])
 (.block 0 (.loop (.seq (.reg [
 p 12 (.bin .lss) [.s 11, .s 10]])
 (.seq (.cond (.s 12) .skip
 (.exit 0))
 (.seq (.block 1 (.seq (.reg [
 p 13 (.iaddr 1) [.s 9, .s 11],
 p 14 (.load none) [.s 13],
 p 5 .mv [.s 14]])
 (.seq (.reg [
 p 15 .mv [.s 3],
 p 16 .mv [.s 5],
 p 17 .len [.s 16],
 p 18 (.bin .add) [.s 15, .s 17],
 p 3 .mv [.s 18]])
 (.seq (.reg [
 p 19 .mv [.s 3],
 p 20 (.bin .lss) [.s 19, .c zz]])
 (.cond (.s 20) (.reg [
 p 21 .bad [],
  ⟨500, false, .bad, [], none, [], []⟩])
 .skip)))))
 (.reg [
 p 22 (.bin .add) [.s 11, .c (.int .i64 1)],
 p 11 .mv [.s 22]])))))))
 (.seq (.reg [
 p 23 .mv [.s 3],
 p 24 (.call 315) [.c et, .s 23],
 p 6 .mv [.s 24]])
 (.seq (.seq (.reg [
 p 25 .mv [.s 0],
 p 26 .len [.s 25],
 p 27 .mv [.c zz]])
 (.block 2 (.loop (.seq (.reg [
 p 28 (.bin .lss) [.s 27, .s 26]])
 (.seq (.cond (.s 28) .skip
 (.exit 2))
 (.seq (.block 3 (.seq (.reg [
 p 29 (.iaddr 1) [.s 25, .s 27],
 p 30 (.load none) [.s 29],
 p 8 .mv [.s 30]])
 (.reg [
 p 31 .mv [.s 6],
 p 32 .mv [.s 8],
 p 33 (.app 1 8 [zz]) [.s 31, .s 32],
 p 6 .mv [.s 33]])))
 (.reg [
 p 34 (.bin .add) [.s 27, .c (.int .i64 1)],
 p 27 .mv [.s 34]])))))))
 (.seq (.reg [
 p 35 .mv [.s 6],
 p 2 .mv [.s 35]])
 .ret))))))
def F270 : AFun := cloneOf 2 16 [zz, zz]
def F271 : AFun where
  n := 24
  res := [.tmp 6]
  code := (.seq (.reg [
 p 6 .mv [.c ff]])
 (.seq (.reg [
 p 7 .mv [.s 0],
 p 8 .mv [.s 1],
 p 9 (.call 286) [.s 7, .s 8],
 p 10 .mv [.s 9],
  ⟨11, true, .mv, [.s 2], (some (10, true)), [], []⟩,
  ⟨12, true, .bin .geq, [.s 11, .c zz], (some (10, true)), [], []⟩,
 p 13 .pick [.s 10, .s 12, .c ff],
 p 14 .mv [.s 13],
  ⟨15, true, .mv, [.s 0], (some (14, true)), [], []⟩,
  ⟨16, true, .mv, [.s 1], (some (14, true)), [], []⟩,
  ⟨17, true, .iaddr 2, [.s 15, .s 16], (some (14, true)), [], []⟩,
  ⟨18, true, .faddr 1, [.s 17], (some (14, true)), [], []⟩,
  ⟨19, true, .load none, [.s 18], (some (14, true)), [], []⟩,
  ⟨20, true, .mv, [.s 2], (some (14, true)), [], []⟩,
  ⟨21, true, .bin .add, [.s 20, .c (.int .i64 1)], (some (14, true)), [], []⟩,
  ⟨22, true, .bin .eql, [.s 19, .s 21], (some (14, true)), [], []⟩,
 p 23 .pick [.s 14, .s 22, .c ff],
 p 6 .mv [.s 23]])
 .ret))
def F272 : AFun where
  n := 18
  res := [.tmp 4]
  code := (.seq (.reg [
 p 2 (.box 2) [.s 0],
 p 4 .mv [.c ff]])
 (.seq (.reg [
 p 5 .mv [.s 1],
 p 6 (.bin .geq) [.s 5, .c zz],
 p 7 .mv [.s 6],
  ⟨8, true, .mv, [.s 1], (some (7, true)), [], []⟩,
  ⟨9, true, .faddr 0, [.s 2], (some (7, true)), [], []⟩,
  ⟨10, true, .load none, [.s 9], (some (7, true)), [], []⟩,
  ⟨11, true, .len, [.s 10], (some (7, true)), [], []⟩,
  ⟨12, true, .faddr 1, [.s 2], (some (7, true)), [], []⟩,
  ⟨13, true, .load none, [.s 12], (some (7, true)), [], []⟩,
  ⟨14, true, .len, [.s 13], (some (7, true)), [], []⟩,
  ⟨15, true, .least, [.s 11, .s 14], (some (7, true)), [], []⟩,
  ⟨16, true, .bin .lss, [.s 8, .s 15], (some (7, true)), [], []⟩,
 p 17 .pick [.s 7, .s 16, .c ff],
 p 4 .mv [.s 17]])
 .ret))
def F273 : AFun where
  n := 9
  res := [.tmp 4]
  code := (.seq (.reg [
 p 4 .mv [.c ff]])
 (.seq (.reg [
 p 5 .mv [.s 0],
 p 6 .mv [.s 1],
 p 7 (.call 258) [.s 5, .s 6],
 p 8 (.bin .geq) [.s 7, .c zz],
 p 4 .mv [.s 8]])
 .ret))
def F274 : AFun where
  n := 19
  res := [.tmp 4]
  code := (.seq (.reg [
 p 4 .mv [.c zz]])
 (.seq (.seq (.reg [
 p 6 .mv [.s 0],
 p 7 .len [.s 6],
 p 8 .mv [.c zz]])
 (.block 0 (.loop (.seq (.reg [
 p 9 (.bin .lss) [.s 8, .s 7]])
 (.seq (.cond (.s 9) .skip
 (.exit 0))
 (.seq (.block 1 (.seq (.reg [
 p 10 .mv [.s 8],
 p 5 .mv [.s 10]])
 (.seq (.reg [
 p 11 .mv [.s 1],
 p 12 .mv [.s 0],
 p 13 .mv [.s 5],
 p 14 (.iaddr 1) [.s 12, .s 13],
 p 15 (.load none) [.s 14],
 p 16 .callv [.s 11, .s 15]])
 (.cond (.s 16) (.seq (.reg [
 p 17 .mv [.s 5],
 p 4 .mv [.s 17]])
 .ret)
 .skip))))
 (.reg [
 p 18 (.bin .add) [.s 8, .c (.int .i64 1)],
 p 8 .mv [.s 18]])))))))
 (.seq (.reg [
 p 4 .mv [.c (.int .i64 (-1))]])
 .ret)))
def F275 : AFun where
  n := 27
  res := [.tmp 6]
  code := (.seq (.reg [
 p 3 (.box 28) [.s 0],
 p 6 .mv [.c zz]])
 (.seq (.seq (.reg [
 p 10 .mv [.s 2],
 p 11 (.faddr 26) [.s 3],
 p 12 (.load none) [.s 11],
 p 13 (.faddr 0) [.s 3],
 p 14 (.load none) [.s 13],
 p 15 (.call 276) [.s 10, .s 12, .s 14],
 p 9 .mv [.s 15],
 p 16 (.extract 0) [.s 9],
 p 17 (.extract 1) [.s 9],
 p 7 .mv [.s 16],
 p 8 .mv [.s 17]])
 (.seq (.reg [
 p 18 .mv [.s 8]])
 (.cond (.s 18) (.seq (.reg [
 p 19 (.load (some 28)) [.s 3],
 p 20 .mv [.s 1],
 p 21 (.call 316) [.s 19, .s 20],
 p 22 .mv [.s 7],
 p 23 .least [.s 21, .s 22],
 p 6 .mv [.s 23]])
 .ret)
 .skip)))
 (.seq (.reg [
 p 24 (.load (some 28)) [.s 3],
 p 25 .mv [.s 1],
 p 26 (.call 316) [.s 24, .s 25],
 p 6 .mv [.s 26]])
 .ret)))
def F276 : AFun where
  n := 51
  res := [.tmp 6, .tmp 7]
  code := (.seq (.reg [
 p 6 .mv [.c zz],
 p 7 .mv [.c ff]])
 (.seq (.reg [
 p 11 .mkmap [],
 p 8 .mv [.s 11]])
 (.seq (.seq (.reg [
 p 12 .mv [.s 1],
 p 13 .len [.s 12],
 p 14 .mv [.c zz]])
 (.block 0 (.loop (.seq (.reg [
 p 15 (.bin .lss) [.s 14, .s 13]])
 (.seq (.cond (.s 15) .skip
 (.exit 0))
 (.seq (.block 1 (.seq (.reg [
 p 16 (.iaddr 1) [.s 12, .s 14],
 p 17 (.load none) [.s 16],
 p 10 .mv [.s 17]])
 (.seq (.seq (.reg [
 p 18 .mv [.s 0],
 p 19 .mv [.s 10],
 p 20 .mv [.s 2],
 p 21 (.call 271) [.s 18, .s 19, .s 20],
 p 22 (.un .not) [.s 21],
 p 23 .mv [.s 22],
  ⟨24, true, .mv, [.s 8], (some (23, false)), [], []⟩,
  ⟨25, true, .mv, [.s 10], (some (23, false)), [], []⟩,
  ⟨26, true, .build [zz] [(0, 1)], [.s 25], (some (23, false)), [], []⟩,
  ⟨27, true, .lookup true [some .i64] ff false, [.s 24, .s 26], (some (23, false)), [], []⟩,
 p 28 .pick [.s 23, .c (.bool true), .s 27]])
 (.cond (.s 28) (.exit 1)
 .skip))
 (.seq (.reg [
 p 29 .mv [.s 8],
 p 30 .mv [.s 10],
 p 31 (.build [zz] [(0, 1)]) [.s 30],
  ⟨500, false, .mapset true [some .i64], [.s 29, .s 31, .c (.bool true)], none, [], []⟩])
 (.seq (.reg [
 p 32 .mv [.s 7],
 p 33 (.un .not) [.s 32],
 p 34 .mv [.s 33],
  ⟨35, true, .mv, [.s 0], (some (34, false)), [], []⟩,
  ⟨36, true, .mv, [.s 10], (some (34, false)), [], []⟩,
  ⟨37, true, .iaddr 2, [.s 35, .s 36], (some (34, false)), [], []⟩,
  ⟨38, true, .faddr 0, [.s 37], (some (34, false)), [], []⟩,
  ⟨39, true, .load none, [.s 38], (some (34, false)), [], []⟩,
  ⟨40, true, .mv, [.s 6], (some (34, false)), [], []⟩,
  ⟨41, true, .bin .lss, [.s 39, .s 40], (some (34, false)), [], []⟩,
 p 42 .pick [.s 34, .c (.bool true), .s 41]])
 (.cond (.s 42) (.reg [
 p 43 .mv [.s 0],
 p 44 .mv [.s 10],
 p 45 (.iaddr 2) [.s 43, .s 44],
 p 46 (.faddr 0) [.s 45],
 p 47 (.load none) [.s 46],
 p 6 .mv [.s 47],
 p 7 .mv [.c (.bool true)]])
 .skip))))))
 (.reg [
 p 48 (.bin .add) [.s 14, .c (.int .i64 1)],
 p 14 .mv [.s 48]])))))))
 (.seq (.reg [
 p 49 .mv [.s 6],
 p 50 .mv [.s 7],
 p 6 .mv [.s 49],
 p 7 .mv [.s 50]])
 .ret))))
def F277 : AFun where
  n := 9
  res := [.tmp 4]
  code := (.seq (.reg [
 p 4 .mv [.c (.int .u64 0)]])
 (.seq (.reg [
 p 5 .mv [.s 0],
 p 6 .mv [.s 1],
 p 7 (.call 317) [.s 6],
 p 8 (.bin .or) [.s 5, .s 7],
 p 4 .mv [.s 8]])
 .ret))
def F278 : AFun where
  n := 23
  res := [.tmp 2, .tmp 3]
  code := (.seq (.reg [
 p 2 .mv [.c zz],
 p 3 .mv [.c ff]])
 (.seq (.seq (.reg [
 p 5 .mv [.s 0],
 p 6 (.bin .eql) [.s 5, .c (.int .u64 0)]])
 (.cond (.s 6) (.seq (.reg [
 p 2 .mv [.c zz],
 p 3 .mv [.c ff]])
 .ret)
 .skip))
 (.seq (.seq (.reg [
 p 4 .mv [.c (.int .i64 32)]])
 (.block 0 (.loop (.seq (.seq (.reg [
 p 7 .mv [.s 4],
 p 8 (.bin .gtr) [.s 7, .c zz]])
 (.cond (.s 8) .skip
 (.exit 0)))
 (.seq (.block 1 (.seq (.reg [
 p 11 .mv [.s 0],
 p 12 .mv [.s 4],
 p 13 (.bin .sub) [.c (.int .i64 64), .s 12],
 p 14 (.bin .shl) [.s 11, .s 13],
 p 15 (.bin .eql) [.s 14, .c (.int .u64 0)]])
 (.cond (.s 15) (.seq (.reg [
 p 16 .mv [.s 0],
 p 17 .mv [.s 4],
 p 18 (.bin .shr) [.s 16, .s 17],
 p 0 .mv [.s 18]])
 (.reg [
 p 19 .mv [.s 2],
 p 20 .mv [.s 4],
 p 21 (.bin .add) [.s 19, .s 20],
 p 2 .mv [.s 21]]))
 .skip)))
 (.reg [
 p 9 .mv [.s 4],
 p 10 (.bin .quo) [.s 9, .c (.int .i64 2)],
 p 4 .mv [.s 10]]))))))
 (.seq (.reg [
 p 22 .mv [.s 2],
 p 2 .mv [.s 22],
 p 3 .mv [.c (.bool true)]])
 .ret))))
def F279 : AFun where
  n := 18
  res := [.tmp 2]
  code := (.seq (.reg [
 p 2 .mv [.c zz]])
 (.seq (.reg [
 p 3 .mv [.c zz]])
 (.seq (.seq (.reg [
 p 6 .mv [.s 0],
 p 7 .len [.s 6],
 p 8 .mv [.c zz]])
 (.block 0 (.loop (.seq (.reg [
 p 9 (.bin .lss) [.s 8, .s 7]])
 (.seq (.cond (.s 9) .skip
 (.exit 0))
 (.seq (.block 1 (.seq (.reg [
 p 10 (.iaddr 1) [.s 6, .s 8],
 p 11 (.load none) [.s 10],
 p 5 .mv [.s 11]])
 (.seq (.reg [
 p 12 .mv [.s 5],
 p 13 .mv [.s 3],
 p 14 (.bin .neq) [.s 12, .s 13]])
 (.cond (.s 14) (.seq (.reg [
 p 15 .mv [.s 5],
 p 2 .mv [.s 15]])
 .ret)
 .skip))))
 (.reg [
 p 16 (.bin .add) [.s 8, .c (.int .i64 1)],
 p 8 .mv [.s 16]])))))))
 (.seq (.reg [
 p 17 .mv [.s 3],
 p 2 .mv [.s 17]])
 .ret))))
def F280 : AFun where
  n := 20
  res := [.tmp 4]
  code := (.seq (.reg [
 p 4 .mv [.c zz]])
 (.seq (.reg [
 p 7 .mv [.s 0],
 p 8 (.call 318) [.s 7],
 p 5 .mv [.s 8]])
 (.seq (.reg [
 p 9 .mv [.s 1],
 p 10 (.call 318) [.s 9],
 p 6 .mv [.s 10]])
 (.seq (.seq (.reg [
 p 11 .mv [.s 5]])
 (.cond (.s 11) (.seq (.seq (.reg [
 p 12 .mv [.s 6]])
 (.cond (.s 12) (.seq (.reg [
 p 4 .mv [.c zz]])
 .ret)
 .skip))
 (.seq (.reg [
 p 4 .mv [.c (.int .i64 (-1))]])
 .ret))
 .skip))
 (.seq (.seq (.reg [
 p 13 .mv [.s 6]])
 (.cond (.s 13) (.seq (.reg [
 p 4 .mv [.c (.int .i64 1)]])
 .ret)
 .skip))
 (.seq (.seq (.reg [
 p 14 .mv [.s 0],
 p 15 .mv [.s 1],
 p 16 (.bin .lss) [.s 14, .s 15]])
 (.cond (.s 16) (.seq (.reg [
 p 4 .mv [.c (.int .i64 (-1))]])
 .ret)
 .skip))
 (.seq (.seq (.reg [
 p 17 .mv [.s 0],
 p 18 .mv [.s 1],
 p 19 (.bin .gtr) [.s 17, .s 18]])
 (.cond (.s 19) (.seq (.reg [
 p 4 .mv [.c (.int .i64 1)]])
 .ret)
 .skip))
 (.seq (.reg [
 p 4 .mv [.c zz]])
 .ret))))))))
def F281 : AFun where
  n := 16
  res := [.cell 2 (some 28)]
  code := (.seq (.reg [
 p 1 (.box 28) [.s 0],
 p 2 (.zero [zz, zz, zz, zz, zz, zz, zz, zz, zz, zz, zz, zz, zz, et, ff, zz, zz, zz, zz, zz, zz, zz, zz, zz, et, ff, et, ff]) []])
 (.seq (.drw [
 p 3 (.faddr 4) [.s 1],
  ⟨4, true, .load (some 11), [.s 3], none, [1], []⟩,
  ⟨5, true, .call 284, [.s 4], none, [5, 8, 11], [5, 8, 11]⟩,
 p 6 (.faddr 15) [.s 1],
  ⟨7, true, .load (some 11), [.s 6], none, [1], []⟩,
  ⟨8, true, .call 284, [.s 7], none, [5, 8, 11], [5, 8, 11]⟩,
 p 9 (.faddr 26) [.s 1],
  ⟨10, true, .load none, [.s 9], none, [1], []⟩,
  ⟨11, true, .call 137, [.s 10], none, [5, 8, 11], [5, 8, 11]⟩,
 p 12 (.faddr 4) [.s 1],
  ⟨500, false, .store 11, [.s 12, .s 5], none, [1, 5], [1]⟩,
 p 13 (.faddr 15) [.s 1],
  ⟨501, false, .store 11, [.s 13, .s 8], none, [1, 8], [1]⟩,
 p 14 (.faddr 26) [.s 1],
  ⟨502, false, .store 1, [.s 14, .s 11], none, [1, 11], [1]⟩])
 (.seq (.reg [
 p 15 (.load (some 28)) [.s 1],
  ⟨503, false, .store 28, [.s 2, .s 15], none, [], []⟩])
 .ret)))
def F282 : AFun where
  n := 160
  res := [.cell 4 (some 11), .cell 5 (some 4), .tmp 6]
  code := (.seq (.reg [
 p 3 (.box 11) [.s 1],
 p 4 (.zero [zz, zz, zz, zz, zz, zz, zz, zz, zz, et, ff]) [],
 p 5 (.zero [zz, zz, zz, zz]) [],
 p 6 .mv [.c ff]])
 (.seq (.seq (.reg [
 p 11 (.faddr 10) [.s 3],
 p 12 (.load none) [.s 11],
 p 13 .mv [.s 12],
  ⟨14, true, .faddr 0, [.s 3], (some (13, false)), [], []⟩,
  ⟨15, true, .load none, [.s 14], (some (13, false)), [], []⟩,
  ⟨16, true, .bin .lss, [.s 15, .c zz], (some (13, false)), [], []⟩,
 p 17 .pick [.s 13, .c (.bool true), .s 16],
 p 18 .mv [.s 17],
  ⟨19, true, .faddr 0, [.s 3], (some (18, false)), [], []⟩,
  ⟨20, true, .load none, [.s 19], (some (18, false)), [], []⟩,
  ⟨21, true, .mv, [.s 0], (some (18, false)), [], []⟩,
  ⟨22, true, .len, [.s 21], (some (18, false)), [], []⟩,
  ⟨23, true, .bin .geq, [.s 20, .s 22], (some (18, false)), [], []⟩,
 p 24 .pick [.s 18, .c (.bool true), .s 23],
 p 25 .mv [.s 24],
  ⟨26, true, .mv, [.s 0], (some (25, false)), [], []⟩,
  ⟨27, true, .faddr 0, [.s 3], (some (25, false)), [], []⟩,
  ⟨28, true, .load none, [.s 27], (some (25, false)), [], []⟩,
  ⟨29, true, .iaddr 4, [.s 26, .s 28], (some (25, false)), [], []⟩,
  ⟨30, true, .load (some 4), [.s 29], (some (25, false)), [], []⟩,
  ⟨31, true, .call 191, [.s 30], (some (25, false)), [], []⟩,
  ⟨32, true, .un .not, [.s 31], (some (25, false)), [], []⟩,
 p 33 .pick [.s 25, .c (.bool true), .s 32]])
 (.cond (.s 33) (.seq (.reg [
 p 34 (.load (some 11)) [.s 3],
 p 35 (.call 319) [.s 34],
 p 36 (.build [zz, zz, zz, zz] []) [],
  ⟨500, false, .store 11, [.s 4, .s 35], none, [], []⟩,
  ⟨501, false, .store 4, [.s 5, .s 36], none, [], []⟩,
 p 6 .mv [.c ff]])
 .ret)
 .skip))
 (.seq (.reg [
 p 37 (.load (some 11)) [.s 3],
 p 38 (.call 319) [.s 37],
  ⟨502, false, .store 11, [.s 3, .s 38], none, [], []⟩])
 (.seq (.reg [
 p 39 .mv [.s 0],
 p 40 (.faddr 0) [.s 3],
 p 41 (.load none) [.s 40],
 p 42 (.iaddr 4) [.s 39, .s 41],
 p 43 (.load (some 4)) [.s 42],
 p 7 (.zero [zz, zz, zz, zz]) [],
  ⟨503, false, .store 4, [.s 7, .s 43], none, [], []⟩])
 (.seq (.reg [
 p 44 (.faddr 0) [.s 3],
 p 45 (.load none) [.s 44],
 p 46 (.bin .add) [.s 45, .c (.int .i64 1)],
 p 8 .mv [.s 46]])
 (.seq (.seq (.drw [
 p 47 (.faddr 1) [.s 7],
  ⟨48, true, .load none, [.s 47], none, [7], []⟩,
 p 49 (.faddr 1) [.s 3],
 p 50 (.iaddrA 8 1) [.s 49, .s 48],
 p 51 (.faddr 2) [.s 7],
  ⟨52, true, .load none, [.s 51], none, [7], []⟩,
 p 53 (.bin .rem) [.s 52, .c (.int .i64 8)],
 p 54 (.faddr 1) [.s 3],
 p 55 (.iaddrA 8 1) [.s 54, .s 53],
  ⟨56, true, .load none, [.s 55], none, [3], []⟩,
 p 9 .mv [.s 50],
 p 10 .mv [.s 56]])
 (.seq (.reg [
 p 57 (.faddr 0) [.s 7],
 p 58 (.load none) [.s 57]])
 (.block 0 (.seq (.reg [
 p 60 (.bin .eql) [.s 58, .c zz],
 p 59 .mv [.s 60]])
 (.cond (.s 59) (.reg [
 p 61 (.faddr 0) [.s 3],
 p 62 (.load none) [.s 61],
 p 8 .mv [.s 62],
 p 63 (.faddr 10) [.s 3],
  ⟨504, false, .store 1, [.s 63, .c (.bool true)], none, [], []⟩])
 (.seq (.reg [
 p 65 (.bin .eql) [.s 58, .c (.int .i64 1)],
 p 64 .mv [.s 65]])
 (.cond (.s 64) (.reg [
 p 66 .mv [.s 9],
 p 67 (.faddr 3) [.s 7],
 p 68 (.load none) [.s 67],
 p 69 .nilck [.s 66],
  ⟨505, false, .store 1, [.s 69, .s 68], none, [], []⟩])
 (.seq (.reg [
 p 71 (.bin .eql) [.s 58, .c (.int .i64 2)],
 p 70 .mv [.s 71]])
 (.cond (.s 70) (.reg [
 p 72 .mv [.s 9],
 p 73 .mv [.s 9],
 p 74 .nilck [.s 73],
 p 75 (.load none) [.s 74],
 p 76 (.conv .u64) [.s 75],
 p 77 .mv [.s 10],
 p 78 (.conv .u64) [.s 77],
 p 79 (.bin .add) [.s 76, .s 78],
 p 80 (.conv .i64) [.s 79],
 p 81 .nilck [.s 72],
  ⟨506, false, .store 1, [.s 81, .s 80], none, [], []⟩])
 (.seq (.reg [
 p 83 (.bin .eql) [.s 58, .c (.int .i64 3)],
 p 82 .mv [.s 83]])
 (.cond (.s 82) (.reg [
 p 84 .mv [.s 9],
 p 85 .mv [.s 9],
 p 86 .nilck [.s 85],
 p 87 (.load none) [.s 86],
 p 88 (.conv .u64) [.s 87],
 p 89 .mv [.s 10],
 p 90 (.conv .u64) [.s 89],
 p 91 (.bin .sub) [.s 88, .s 90],
 p 92 (.conv .i64) [.s 91],
 p 93 .nilck [.s 84],
  ⟨507, false, .store 1, [.s 93, .s 92], none, [], []⟩])
 (.seq (.reg [
 p 95 (.bin .eql) [.s 58, .c (.int .i64 4)],
 p 94 .mv [.s 95]])
 (.cond (.s 94) (.reg [
 p 96 .mv [.s 9],
 p 97 .mv [.s 9],
 p 98 .nilck [.s 97],
 p 99 (.load none) [.s 98],
 p 100 (.conv .u64) [.s 99],
 p 101 .mv [.s 10],
 p 102 (.conv .u64) [.s 101],
 p 103 (.bin .mul) [.s 100, .s 102],
 p 104 (.conv .i64) [.s 103],
 p 105 .nilck [.s 96],
  ⟨508, false, .store 1, [.s 105, .s 104], none, [], []⟩])
 (.seq (.reg [
 p 107 (.bin .eql) [.s 58, .c (.int .i64 5)],
 p 106 .mv [.s 107]])
 (.cond (.s 106) (.drw [
 p 108 .mv [.s 9],
 p 109 .mv [.s 9],
 p 110 .nilck [.s 109],
  ⟨111, true, .load none, [.s 110], none, [3], []⟩,
 p 112 (.faddr 3) [.s 7],
  ⟨113, true, .load none, [.s 112], none, [7], []⟩,
 p 114 (.call 320) [.s 111, .s 113],
 p 115 .nilck [.s 108],
  ⟨509, false, .store 1, [.s 115, .s 114], none, [3], [3]⟩])
 (.seq (.reg [
 p 117 (.bin .eql) [.s 58, .c (.int .i64 6)],
 p 116 .mv [.s 117]])
 (.cond (.s 116) (.drw [
 p 118 .mv [.s 9],
 p 119 .mv [.s 9],
 p 120 .nilck [.s 119],
  ⟨121, true, .load none, [.s 120], none, [3], []⟩,
 p 122 (.faddr 3) [.s 7],
  ⟨123, true, .load none, [.s 122], none, [7], []⟩,
 p 124 (.call 321) [.s 121, .s 123],
 p 125 .nilck [.s 118],
  ⟨510, false, .store 1, [.s 125, .s 124], none, [3], [3]⟩])
 (.seq (.reg [
 p 127 (.bin .eql) [.s 58, .c (.int .i64 7)],
 p 126 .mv [.s 127]])
 (.cond (.s 126) (.seq (.reg [
 p 128 .mv [.s 9],
 p 129 .nilck [.s 128],
 p 130 (.load none) [.s 129],
 p 131 (.bin .eql) [.s 130, .c zz]])
 (.cond (.s 131) (.reg [
 p 132 .mv [.s 8],
 p 133 (.faddr 3) [.s 7],
 p 134 (.load none) [.s 133],
 p 135 (.bin .add) [.s 132, .s 134],
 p 8 .mv [.s 135]])
 .skip))
 (.seq (.reg [
 p 137 (.bin .eql) [.s 58, .c (.int .i64 8)],
 p 136 .mv [.s 137]])
 (.cond (.s 136) (.reg [
 p 138 (.faddr 9) [.s 3],
 p 139 (.load none) [.s 138],
 p 140 (.faddr 0) [.s 3],
 p 141 (.load none) [.s 140],
 p 142 (.bin .add) [.s 141, .c (.int .i64 1)],
 p 143 (.faddr 0) [.s 3],
 p 144 (.load none) [.s 143],
 p 145 (.faddr 2) [.s 7],
 p 146 (.load none) [.s 145],
 p 147 (.bin .add) [.s 144, .s 146],
 p 148 (.faddr 3) [.s 7],
 p 149 (.load none) [.s 148],
 p 150 (.bin .sub) [.s 149, .c (.int .i64 1)],
 p 151 (.build [zz, zz, zz] [(0, 1), (1, 1), (2, 1)]) [.s 142, .s 147, .s 150],
 p 152 (.buildSl 3 [zz, zz, zz] 1 [0]) [.s 151],
 p 153 (.app 3 24 [zz, zz, zz]) [.s 139, .s 152],
 p 154 (.faddr 9) [.s 3],
  ⟨511, false, .store 1, [.s 154, .s 153], none, [], []⟩])
 .skip)))))))))))))))))))))
 (.seq (.reg [
 p 155 .mv [.s 8],
 p 156 (.faddr 0) [.s 3],
  ⟨512, false, .store 1, [.s 156, .s 155], none, [], []⟩])
 (.seq (.drw [
  ⟨157, true, .load (some 11), [.s 3], none, [3], []⟩,
  ⟨158, true, .call 322, [.s 157], none, [38, 152, 153], [38, 152, 153]⟩,
  ⟨159, true, .load (some 4), [.s 7], none, [7], []⟩,
  ⟨513, false, .store 11, [.s 4, .s 158], none, [4, 158], [4]⟩,
  ⟨514, false, .store 4, [.s 5, .s 159], none, [5], [5]⟩,
 p 6 .mv [.c (.bool true)]])
 .ret))))))))
def F283 : AFun where
  n := 19
  res := [.tmp 4]
  code := (.seq (.reg [
 p 2 (.box 6) [.s 0],
 p 3 (.box 28) [.s 1],
 p 4 .mv [.c et]])
 (.seq (.reg [
 p 6 .mkmap [],
 p 7 (.faddr 3) [.s 2],
 p 8 (.load none) [.s 7],
  ⟨500, false, .mapset false [some .i64], [.s 6, .c zz, .s 8], none, [], []⟩,
 p 9 (.faddr 4) [.s 2],
 p 10 (.load none) [.s 9],
  ⟨501, false, .mapset false [some .i64], [.s 6, .c (.int .i64 1), .s 10], none, [], []⟩,
 p 11 (.faddr 5) [.s 2],
 p 12 (.load none) [.s 11],
  ⟨502, false, .mapset false [some .i64], [.s 6, .c (.int .i64 2), .s 12], none, [], []⟩,
 p 13 .mv [.s 6],
 p 5 .mv [.s 13]])
 (.seq (.reg [
 p 14 .mv [.s 5],
 p 15 (.faddr 3) [.s 3],
 p 16 (.load none) [.s 15],
 p 17 (.lookup false [some .i64] et false) [.s 14, .s 16],
 p 18 (.call 135) [.s 17],
 p 4 .mv [.s 18]])
 .ret)))
def F284 : AFun where
  n := 8
  res := [.cell 2 (some 11)]
  code := (.seq (.reg [
 p 1 (.box 11) [.s 0],
 p 2 (.zero [zz, zz, zz, zz, zz, zz, zz, zz, zz, et, ff]) []])
 (.seq (.reg [
 p 3 (.faddr 9) [.s 1],
 p 4 (.load none) [.s 3],
 p 5 (.call 136) [.s 4],
 p 6 (.faddr 9) [.s 1],
  ⟨500, false, .store 1, [.s 6, .s 5], none, [], []⟩])
 (.seq (.reg [
 p 7 (.load (some 11)) [.s 1],
  ⟨501, false, .store 11, [.s 2, .s 7], none, [], []⟩])
 .ret)))
def F285 : AFun where
  n := 33
  res := [.tmp 6]
  code := (.seq (.reg [
 p 6 .mv [.c et]])
 (.seq (.reg [
 p 8 .mv [.s 0],
 p 9 .mv [.s 1],
 p 10 .mv [.s 2],
 p 11 .mv [.s 0],
 p 12 .len [.s 11],
 p 13 .slice3 [.s 8, .s 9, .s 10, .s 12]])
 (.seq (.seq (.reg [
 p 14 .mv [.s 1],
 p 15 .mv [.s 2],
 p 16 (.bin .eql) [.s 14, .s 15]])
 (.cond (.s 16) (.seq (.reg [
 p 17 .mv [.s 0],
 p 6 .mv [.s 17]])
 .ret)
 .skip))
 (.seq (.reg [
 p 18 .mv [.s 0],
 p 19 .len [.s 18],
 p 7 .mv [.s 19]])
 (.seq (.drw [
 p 20 .mv [.s 0],
 p 21 .mv [.s 1],
  ⟨22, true, .slice 1 false true, [.s 20, .s 21], none, [0, 26], []⟩,
 p 23 .mv [.s 0],
 p 24 .mv [.s 2],
  ⟨25, true, .slice 1 true false, [.s 23, .s 24], none, [0, 26], []⟩,
  ⟨26, true, .app 1 8 [zz], [.s 22, .s 25], none, [0, 26], [0, 26]⟩,
 p 0 .mv [.s 26]])
 (.seq (.reg [
 p 27 .mv [.s 0],
 p 28 .mv [.s 0],
 p 29 .len [.s 28],
 p 30 .mv [.s 7],
 p 31 (.slice 1 true true) [.s 27, .s 29, .s 30],
  ⟨500, false, .clear [zz], [.s 31], none, [], []⟩])
 (.seq (.reg [
 p 32 .mv [.s 0],
 p 6 .mv [.s 32]])
 .ret)))))))
def F286 : AFun where
  n := 13
  res := [.tmp 4]
  code := (.seq (.reg [
 p 4 .mv [.c ff]])
 (.seq (.reg [
 p 5 .mv [.s 1],
 p 6 (.bin .geq) [.s 5, .c zz],
 p 7 .mv [.s 6],
  ⟨8, true, .mv, [.s 1], (some (7, true)), [], []⟩,
  ⟨9, true, .mv, [.s 0], (some (7, true)), [], []⟩,
  ⟨10, true, .len, [.s 9], (some (7, true)), [], []⟩,
  ⟨11, true, .bin .lss, [.s 8, .s 10], (some (7, true)), [], []⟩,
 p 12 .pick [.s 7, .s 11, .c ff],
 p 4 .mv [.s 12]])
 .ret))
def F287 : AFun where
  n := 22
  res := [.cell 2 (some 28)]
  code := (.seq (.reg [
 p 1 (.box 28) [.s 0],
 p 2 (.zero [zz, zz, zz, zz, zz, zz, zz, zz, zz, zz, zz, zz, zz, et, ff, zz, zz, zz, zz, zz, zz, zz, zz, zz, et, ff, et, ff]) []])
 (.seq (.reg [
 p 4 (.load (some 28)) [.s 1],
 p 5 (.call 281) [.s 4],
 p 3 (.zero [zz, zz, zz, zz, zz, zz, zz, zz, zz, zz, zz, zz, zz, et, ff, zz, zz, zz, zz, zz, zz, zz, zz, zz, et, ff, et, ff]) [],
  ⟨500, false, .store 28, [.s 3, .s 5], none, [], []⟩])
 (.seq (.drw [
 p 6 (.faddr 4) [.s 1],
 p 7 (.faddr 1) [.s 6],
 p 8 (.iaddrA 8 1) [.s 7, .c zz],
  ⟨9, true, .load none, [.s 8], none, [1], []⟩,
 p 10 (.call 155) [.s 9],
 p 11 (.faddr 4) [.s 1],
 p 12 (.faddr 1) [.s 11],
 p 13 (.iaddrA 8 1) [.s 12, .c zz],
  ⟨14, true, .load none, [.s 13], none, [1], []⟩,
 p 15 (.call 155) [.s 14],
 p 16 (.faddr 3) [.s 3],
  ⟨501, false, .store 1, [.s 16, .c (.int .i64 2)], none, [3], [3]⟩,
 p 17 (.faddr 4) [.s 3],
  ⟨502, false, .store 11, [.s 17, .s 10], none, [3, 10], [3]⟩,
 p 18 (.faddr 15) [.s 3],
  ⟨503, false, .store 11, [.s 18, .s 15], none, [3, 15], [3]⟩,
 p 19 (.faddr 26) [.s 3],
  ⟨504, false, .store 1, [.s 19, .c et], none, [3], [3]⟩,
 p 20 (.faddr 27) [.s 3],
  ⟨505, false, .store 1, [.s 20, .c ff], none, [3], [3]⟩])
 (.seq (.reg [
 p 21 (.load (some 28)) [.s 3],
  ⟨506, false, .store 28, [.s 2, .s 21], none, [], []⟩])
 .ret))))
def F288 : AFun where
  n := 33
  res := [.cell 4 (some 28)]
  code := (.seq (.reg [
 p 2 (.box 6) [.s 0],
 p 3 (.box 28) [.s 1],
 p 4 (.zero [zz, zz, zz, zz, zz, zz, zz, zz, zz, zz, zz, zz, zz, et, ff, zz, zz, zz, zz, zz, zz, zz, zz, zz, et, ff, et, ff]) []])
 (.seq (.reg [
 p 6 (.load (some 28)) [.s 3],
 p 7 (.call 281) [.s 6],
 p 5 (.zero [zz, zz, zz, zz, zz, zz, zz, zz, zz, zz, zz, zz, zz, et, ff, zz, zz, zz, zz, zz, zz, zz, zz, zz, et, ff, et, ff]) [],
  ⟨500, false, .store 28, [.s 5, .s 7], none, [], []⟩])
 (.seq (.reg [
 p 8 (.faddr 26) [.s 5],
  ⟨501, false, .store 1, [.s 8, .c et], none, [], []⟩])
 (.seq (.seq (.reg [
 p 9 (.faddr 3) [.s 3],
 p 10 (.load none) [.s 9],
 p 11 (.bin .eql) [.s 10, .c zz],
 p 12 .mv [.s 11],
  ⟨13, true, .faddr 4, [.s 2], (some (12, true)), [], []⟩,
  ⟨14, true, .load none, [.s 13], (some (12, true)), [], []⟩,
  ⟨15, true, .len, [.s 14], (some (12, true)), [], []⟩,
  ⟨16, true, .bin .gtr, [.s 15, .c zz], (some (12, true)), [], []⟩,
 p 17 .pick [.s 12, .s 16, .c ff]])
 (.cond (.s 17) (.seq (.drw [
 p 18 (.faddr 2) [.s 3],
  ⟨19, true, .load none, [.s 18], none, [3], []⟩,
 p 20 (.call 155) [.s 19],
 p 21 (.faddr 2) [.s 3],
  ⟨22, true, .load none, [.s 21], none, [3], []⟩,
 p 23 (.call 155) [.s 22],
 p 24 (.faddr 3) [.s 5],
  ⟨502, false, .store 1, [.s 24, .c (.int .i64 1)], none, [5], [5]⟩,
 p 25 (.faddr 4) [.s 5],
  ⟨503, false, .store 11, [.s 25, .s 20], none, [5, 20], [5]⟩,
 p 26 (.faddr 15) [.s 5],
  ⟨504, false, .store 11, [.s 26, .s 23], none, [5, 23], [5]⟩])
 (.seq (.reg [
 p 27 (.load (some 28)) [.s 5],
  ⟨505, false, .store 28, [.s 4, .s 27], none, [], []⟩])
 .ret))
 .skip))
 (.seq (.reg [
 p 28 (.faddr 15) [.s 3],
 p 29 (.load (some 11)) [.s 28],
 p 30 (.call 284) [.s 29],
 p 31 (.faddr 4) [.s 5],
  ⟨506, false, .store 11, [.s 31, .s 30], none, [], []⟩])
 (.seq (.reg [
 p 32 (.load (some 28)) [.s 5],
  ⟨507, false, .store 28, [.s 4, .s 32], none, [], []⟩])
 .ret))))))
def F289 : AFun where
  n := 28
  res := []
  code := (.seq (.reg [
 p 4 .mv [.s 0],
 p 5 .len [.s 4],
 p 6 (.bin .sub) [.s 5, .c (.int .i64 1)],
 p 2 .mv [.c zz],
 p 3 .mv [.s 6]])
 (.block 0 (.loop (.seq (.seq (.reg [
 p 7 .mv [.s 2],
 p 8 .mv [.s 3],
 p 9 (.bin .lss) [.s 7, .s 8]])
 (.cond (.s 9) .skip
 (.exit 0)))
 (.seq (.block 1 (.drw [
 p 14 .mv [.s 0],
 p 15 .mv [.s 2],
 p 16 .mv [.s 0],
 p 17 .mv [.s 3],
 p 18 .mv [.s 0],
 p 19 .mv [.s 3],
 p 20 (.iaddr 28) [.s 18, .s 19],
 p 21 (.load (some 28)) [.s 20],
 p 22 .mv [.s 0],
 p 23 .mv [.s 2],
 p 24 (.iaddr 28) [.s 22, .s 23],
 p 25 (.load (some 28)) [.s 24],
 p 26 (.iaddr 28) [.s 14, .s 15],
  ⟨500, false, .store 28, [.s 26, .s 21], none, [], []⟩,
 p 27 (.iaddr 28) [.s 16, .s 17],
  ⟨501, false, .store 28, [.s 27, .s 25], none, [], []⟩]))
 (.reg [
 p 10 .mv [.s 2],
 p 11 (.bin .add) [.s 10, .c (.int .i64 1)],
 p 12 .mv [.s 3],
 p 13 (.bin .sub) [.s 12, .c (.int .i64 1)],
 p 2 .mv [.s 11],
 p 3 .mv [.s 13]]))))))
def F300 : AFun where
  n := 6
  res := [.tmp 2]
  code := (.seq (.reg [
 p 1 (.box 4) [.s 0],
 p 2 .mv [.c ff]])
 (.seq (.reg [
 p 3 (.load (some 4)) [.s 1],
 p 4 (.call 191) [.s 3],
 p 5 (.un .not) [.s 4],
 p 2 .mv [.s 5]])
 .ret))
def F301 : AFun where
  n := 6
  res := [.tmp 2]
  code := (.seq (.reg [
 p 1 (.box 4) [.s 0],
 p 2 .mv [.c ff]])
 (.seq (.reg [
 p 3 (.faddr 0) [.s 1],
 p 4 (.load none) [.s 3],
 p 5 (.bin .eql) [.s 4, .c zz],
 p 2 .mv [.s 5]])
 .ret))
def F302 : AFun where
  n := 84
  res := [.tmp 2]
  code := (.seq (.reg [
 p 2 .mv [.c ff]])
 (.seq (.reg [
 p 10 .mv [.s 0],
 p 11 (.call 331) [.s 10],
 p 3 .mv [.s 11]])
 (.seq (.reg [
 p 12 .mv [.s 0],
 p 13 .len [.s 12],
 p 14 (.mkslice [zz] 8) [.s 13, .s 13],
 p 4 .mv [.s 14]])
 (.seq (.seq (.reg [
 p 15 .mv [.s 3],
 p 16 .len [.s 15],
 p 17 .mv [.c zz]])
 (.block 0 (.loop (.seq (.reg [
 p 18 (.bin .lss) [.s 17, .s 16]])
 (.seq (.cond (.s 18) .skip
 (.exit 0))
 (.seq (.block 1 (.seq (.reg [
 p 19 (.iaddr 4) [.s 15, .s 17],
 p 20 (.load (some 4)) [.s 19],
 p 6 (.zero [zz, zz, zz, ff]) [],
  ⟨500, false, .store 4, [.s 6, .s 20], none, [], []⟩])
 (.seq (.seq (.reg [
 p 21 (.faddr 1) [.s 6],
 p 22 (.load none) [.s 21],
 p 23 .mv [.s 0],
 p 24 .len [.s 23],
 p 25 (.bin .sub) [.s 24, .c (.int .i64 1)],
 p 26 (.bin .geq) [.s 22, .s 25]])
 (.cond (.s 26) (.seq (.reg [
 p 2 .mv [.c ff]])
 .ret)
 .skip))
 (.seq (.seq (.reg [
 p 27 .mv [.s 3],
 p 28 .len [.s 27],
 p 29 .mv [.c zz]])
 (.block 2 (.loop (.seq (.reg [
 p 30 (.bin .lss) [.s 29, .s 28]])
 (.seq (.cond (.s 30) .skip
 (.exit 2))
 (.seq (.block 3 (.seq (.reg [
 p 31 (.iaddr 4) [.s 27, .s 29],
 p 32 (.load (some 4)) [.s 31],
 p 8 (.zero [zz, zz, zz, ff]) [],
  ⟨501, false, .store 4, [.s 8, .s 32], none, [], []⟩])
 (.seq (.reg [
 p 33 (.load (some 4)) [.s 8],
 p 34 (.faddr 2) [.s 6],
 p 35 (.load none) [.s 34],
 p 36 (.call 332) [.s 33, .s 35],
 p 37 .mv [.s 36],
  ⟨38, true, .load (some 4), [.s 6], (some (37, true)), [], []⟩,
  ⟨39, true, .load (some 4), [.s 8], (some (37, true)), [], []⟩,
  ⟨40, true, .call 333, [.s 38, .s 39], (some (37, true)), [], []⟩,
  ⟨41, true, .un .not, [.s 40], (some (37, true)), [], []⟩,
 p 42 .pick [.s 37, .s 41, .c ff],
 p 43 .mv [.s 42],
  ⟨44, true, .load (some 4), [.s 6], (some (43, false)), [], []⟩,
  ⟨45, true, .load (some 4), [.s 8], (some (43, false)), [], []⟩,
  ⟨46, true, .call 334, [.s 44, .s 45], (some (43, false)), [], []⟩,
  ⟨47, true, .un .not, [.s 46], (some (43, false)), [], []⟩,
  ⟨48, true, .mv, [.s 47], (some (43, false)), [], []⟩,
  ⟨49, true, .load (some 4), [.s 6], (some (48, true)), [], []⟩,
  ⟨50, true, .load (some 4), [.s 8], (some (48, true)), [], []⟩,
  ⟨51, true, .call 333, [.s 49, .s 50], (some (48, true)), [], []⟩,
  ⟨52, true, .un .not, [.s 51], (some (48, true)), [], []⟩,
  ⟨53, true, .pick, [.s 48, .s 52, .c ff], (some (43, false)), [], []⟩,
  ⟨54, true, .mv, [.s 53], (some (43, false)), [], []⟩,
  ⟨55, true, .load (some 4), [.s 8], (some (54, true)), [], []⟩,
  ⟨56, true, .load (some 4), [.s 6], (some (54, true)), [], []⟩,
  ⟨57, true, .call 333, [.s 55, .s 56], (some (54, true)), [], []⟩,
  ⟨58, true, .un .not, [.s 57], (some (54, true)), [], []⟩,
  ⟨59, true, .pick, [.s 54, .s 58, .c ff], (some (43, false)), [], []⟩,
 p 60 .pick [.s 43, .c (.bool true), .s 59]])
 (.cond (.s 60) (.seq (.reg [
 p 2 .mv [.c ff]])
 .ret)
 .skip))))
 (.reg [
 p 61 (.bin .add) [.s 29, .c (.int .i64 1)],
 p 29 .mv [.s 61]])))))))
 (.seq (.reg [
 p 62 (.faddr 0) [.s 6],
 p 63 (.load none) [.s 62],
 p 9 .mv [.s 63]])
 (.block 4 (.loop (.seq (.seq (.reg [
 p 64 (.faddr 3) [.s 6],
 p 65 (.load none) [.s 64],
 p 66 .mv [.s 65],
  ⟨67, true, .mv, [.s 9], (some (66, true)), [], []⟩,
  ⟨68, true, .faddr 1, [.s 6], (some (66, true)), [], []⟩,
  ⟨69, true, .load none, [.s 68], (some (66, true)), [], []⟩,
  ⟨70, true, .bin .leq, [.s 67, .s 69], (some (66, true)), [], []⟩,
 p 71 .pick [.s 66, .s 70, .c ff]])
 (.cond (.s 71) .skip
 (.exit 4)))
 (.seq (.block 5 (.reg [
 p 74 .mv [.s 4],
 p 75 .mv [.s 9],
 p 76 (.iaddr 1) [.s 74, .s 75],
 p 77 (.load none) [.s 76],
 p 78 (.bin .add) [.s 77, .c (.int .i64 1)],
 p 79 (.iaddr 1) [.s 74, .s 75],
  ⟨502, false, .store 1, [.s 79, .s 78], none, [], []⟩]))
 (.reg [
 p 72 .mv [.s 9],
 p 73 (.bin .add) [.s 72, .c (.int .i64 1)],
 p 9 .mv [.s 73]]))))))))))
 (.reg [
 p 80 (.bin .add) [.s 17, .c (.int .i64 1)],
 p 17 .mv [.s 80]])))))))
 (.seq (.reg [
 p 81 .mv [.s 4],
 p 82 (.call 305) [.s 81, .c (.fn 335 [] [])],
 p 83 (.un .not) [.s 82],
 p 2 .mv [.s 83]])
 .ret)))))
def F303 : AFun where
  n := 110
  res := [.tmp 2, .tmp 3]
  code := (.seq (.reg [
 p 1 (.box 1) [.s 0],
 p 2 .mv [.c et],
 p 3 .mv [.c ff]])
 (.seq (.drw [
  ⟨13, true, .load none, [.s 1], none, [1], []⟩,
 p 14 .len [.s 13],
 p 15 (.mkslice [zz] 8) [.s 14, .s 14],
 p 16 (.buildSl 1 [zz] 0 []) [],
 p 17 .mkmap [],
  ⟨18, true, .load none, [.s 1], none, [1], []⟩,
 p 19 (.call 304) [.s 18],
 p 4 .mv [.s 15],
 p 5 .mv [.s 16],
 p 6 .mv [.s 17],
 p 7 .mv [.s 19]])
 (.seq (.seq (.reg [
 p 20 .mv [.s 7],
 p 21 .len [.s 20],
 p 22 .mv [.c zz]])
 (.block 0 (.loop (.seq (.reg [
 p 23 (.bin .lss) [.s 22, .s 21]])
 (.seq (.cond (.s 23) .skip
 (.exit 0))
 (.seq (.block 1 (.seq (.reg [
 p 24 .mv [.s 22],
 p 25 (.iaddr 24) [.s 20, .s 22],
 p 26 (.load (some 24)) [.s 25],
 p 8 (.zero [zz]) [],
 p 9 (.zero [ff, ff, ff, ff, ff, ff, ff, ff, ff, ff, ff, ff, ff, ff, ff, ff, ff, ff, ff, ff, ff, ff, ff, ff]) [],
  ⟨500, false, .store 1, [.s 8, .s 24], none, [], []⟩,
  ⟨501, false, .store 24, [.s 9, .s 26], none, [], []⟩])
 (.seq (.seq (.reg [
 p 28 .mv [.s 6],
 p 29 (.load (some 24)) [.s 9],
 p 30 (.lookup true [none, none, none, none, none, none, none, none, none, none, none, none, none, none, none, none, none, none, none, none, none, none, none, none] zz true) [.s 28, .s 29],
 p 27 .mv [.s 30],
 p 31 (.extract 0) [.s 27],
 p 32 (.extract 1) [.s 27],
 p 10 .mv [.s 31],
 p 11 .mv [.s 32]])
 (.seq (.reg [
 p 33 .mv [.s 11],
 p 34 (.un .not) [.s 33]])
 (.cond (.s 34) (.reg [
 p 35 .mv [.s 6],
 p 36 (.load (some 24)) [.s 9],
 p 37 (.load none) [.s 8],
  ⟨502, false, .mapset true [none, none, none, none, none, none, none, none, none, none, none, none, none, none, none, none, none, none, none, none, none, none, none, none], [.s 35, .s 36, .s 37], none, [], []⟩])
 .skip)))
 (.seq (.reg [
 p 38 (.load none) [.s 1],
 p 39 (.load none) [.s 8],
 p 40 (.iaddr 4) [.s 38, .s 39],
 p 41 (.faddr 0) [.s 40],
 p 42 (.load none) [.s 41]])
 (.block 2 (.seq (.reg [
 p 44 (.bin .eql) [.s 42, .c (.int .i64 9)],
 p 43 .mv [.s 44]])
 (.cond (.s 43) (.seq (.seq (.reg [
 p 45 .mv [.s 5],
 p 46 .len [.s 45],
 p 47 (.bin .geq) [.s 46, .c (.int .i64 2)],
 p 48 .mv [.s 47],
  ⟨49, true, .mv, [.s 5], (some (48, false)), [], []⟩,
  ⟨50, true, .mkfn 336 0, [.s 1, .s 8], (some (48, false)), [], []⟩,
  ⟨51, true, .call 305, [.s 49, .s 50], (some (48, false)), [], []⟩,
 p 52 .pick [.s 48, .c (.bool true), .s 51]])
 (.cond (.s 52) (.seq (.reg [
 p 2 .mv [.c et],
 p 3 .mv [.c ff]])
 .ret)
 .skip))
 (.reg [
 p 53 .mv [.s 5],
 p 54 (.load none) [.s 8],
 p 55 (.buildSl 1 [zz] 1 [0]) [.s 54],
 p 56 (.app 1 8 [zz]) [.s 53, .s 55],
 p 5 .mv [.s 56]]))
 (.seq (.reg [
 p 58 (.bin .eql) [.s 42, .c (.int .i64 10)],
 p 57 .mv [.s 58]])
 (.cond (.s 57) (.seq (.reg [
 p 59 .mv [.s 5],
 p 60 .len [.s 59],
 p 61 (.bin .sub) [.s 60, .c (.int .i64 1)],
 p 12 .mv [.s 61]])
 (.seq (.seq (.drw [
 p 62 .mv [.s 12],
 p 63 (.bin .lss) [.s 62, .c zz],
 p 64 .mv [.s 63],
  ⟨65, true, .load none, [.s 1], (some (64, false)), [1], []⟩,
  ⟨66, true, .mv, [.s 5], (some (64, false)), [], []⟩,
  ⟨67, true, .mv, [.s 12], (some (64, false)), [], []⟩,
  ⟨68, true, .iaddr 1, [.s 66, .s 67], (some (64, false)), [16, 55, 56], []⟩,
  ⟨69, true, .load none, [.s 68], (some (64, false)), [16, 55, 56], []⟩,
  ⟨70, true, .iaddr 4, [.s 65, .s 69], (some (64, false)), [], []⟩,
  ⟨71, true, .faddr 1, [.s 70], (some (64, false)), [], []⟩,
  ⟨72, true, .load none, [.s 71], (some (64, false)), [], []⟩,
  ⟨73, true, .load none, [.s 1], (some (64, false)), [1], []⟩,
  ⟨74, true, .load none, [.s 8], (some (64, false)), [8], []⟩,
  ⟨75, true, .iaddr 4, [.s 73, .s 74], (some (64, false)), [], []⟩,
  ⟨76, true, .faddr 1, [.s 75], (some (64, false)), [], []⟩,
  ⟨77, true, .load none, [.s 76], (some (64, false)), [], []⟩,
  ⟨78, true, .bin .neq, [.s 72, .s 77], (some (64, false)), [], []⟩,
 p 79 .pick [.s 64, .c (.bool true), .s 78],
 p 80 .mv [.s 79],
  ⟨81, true, .mv, [.s 6], (some (80, false)), [], []⟩,
  ⟨82, true, .mv, [.s 7], (some (80, false)), [], []⟩,
  ⟨83, true, .mv, [.s 5], (some (80, false)), [], []⟩,
  ⟨84, true, .mv, [.s 12], (some (80, false)), [], []⟩,
  ⟨85, true, .iaddr 1, [.s 83, .s 84], (some (80, false)), [16, 55, 56], []⟩,
  ⟨86, true, .load none, [.s 85], (some (80, false)), [16, 55, 56], []⟩,
  ⟨87, true, .iaddr 24, [.s 82, .s 86], (some (80, false)), [19], []⟩,
  ⟨88, true, .load (some 24), [.s 87], (some (80, false)), [19], []⟩,
  ⟨89, true, .lookup true [none, none, none, none, none, none, none, none, none, none, none, none, none, none, none, none, none, none, none, none, none, none, none, none] zz false, [.s 81, .s 88], (some (80, false)), [17], []⟩,
  ⟨90, true, .mv, [.s 6], (some (80, false)), [], []⟩,
  ⟨91, true, .load (some 24), [.s 9], (some (80, false)), [9], []⟩,
  ⟨92, true, .lookup true [none, none, none, none, none, none, none, none, none, none, none, none, none, none, none, none, none, none, none, none, none, none, none, none] zz false, [.s 90, .s 91], (some (80, false)), [17], []⟩,
  ⟨93, true, .bin .neq, [.s 89, .s 92], (some (80, false)), [], []⟩,
 p 94 .pick [.s 80, .c (.bool true), .s 93]])
 (.cond (.s 94) (.seq (.reg [
 p 2 .mv [.c et],
 p 3 .mv [.c ff]])
 .ret)
 .skip))
 (.seq (.drw [
 p 95 .mv [.s 4],
 p 96 .mv [.s 5],
 p 97 .mv [.s 12],
  ⟨98, true, .iaddr 1, [.s 96, .s 97], none, [16, 55, 56], []⟩,
  ⟨99, true, .load none, [.s 98], none, [16, 55, 56], []⟩,
  ⟨100, true, .load none, [.s 8], none, [8], []⟩,
  ⟨101, true, .iaddr 1, [.s 95, .s 99], none, [15], []⟩,
  ⟨503, false, .store 1, [.s 101, .s 100], none, [15], [15]⟩])
 (.reg [
 p 102 .mv [.s 5],
 p 103 .mv [.s 12],
 p 104 (.slice 1 false true) [.s 102, .s 103],
 p 5 .mv [.s 104]]))))
 .skip)))))))))
 (.reg [
 p 105 (.bin .add) [.s 22, .c (.int .i64 1)],
 p 22 .mv [.s 105]])))))))
 (.seq (.seq (.reg [
 p 106 .mv [.s 5],
 p 107 .len [.s 106],
 p 108 (.bin .gtr) [.s 107, .c zz]])
 (.cond (.s 108) (.seq (.reg [
 p 2 .mv [.c et],
 p 3 .mv [.c ff]])
 .ret)
 .skip))
 (.seq (.reg [
 p 109 .mv [.s 4],
 p 2 .mv [.s 109],
 p 3 .mv [.c (.bool true)]])
 .ret)))))
def F304 : AFun where
  n := 38
  res := [.tmp 2]
  code := (.seq (.reg [
 p 2 .mv [.c et]])
 (.seq (.reg [
 p 7 .mv [.s 0],
 p 8 .len [.s 7],
 p 9 (.mkslice [ff, ff, ff, ff, ff, ff, ff, ff, ff, ff, ff, ff, ff, ff, ff, ff, ff, ff, ff, ff, ff, ff, ff, ff] 24) [.s 8, .s 8],
 p 3 .mv [.s 9]])
 (.seq (.seq (.reg [
 p 10 .mv [.s 0],
 p 11 (.call 331) [.s 10],
 p 12 .len [.s 11],
 p 13 .mv [.c zz]])
 (.block 0 (.loop (.seq (.reg [
 p 14 (.bin .lss) [.s 13, .s 12]])
 (.seq (.cond (.s 14) .skip
 (.exit 0))
 (.seq (.block 1 (.seq (.reg [
 p 15 .mv [.s 13],
 p 16 (.iaddr 4) [.s 11, .s 13],
 p 17 (.load (some 4)) [.s 16],
 p 5 (.zero [zz, zz, zz, ff]) [],
 p 4 .mv [.s 15],
  ⟨500, false, .store 4, [.s 5, .s 17], none, [], []⟩])
 (.seq (.reg [
 p 18 .mv [.s 0],
 p 19 .len [.s 18],
 p 20 .mv [.c zz]])
 (.block 2 (.loop (.seq (.reg [
 p 21 (.bin .lss) [.s 20, .s 19]])
 (.seq (.cond (.s 21) .skip
 (.exit 2))
 (.seq (.block 3 (.seq (.reg [
 p 22 .mv [.s 20],
 p 6 .mv [.s 22]])
 (.seq (.reg [
 p 23 .mv [.s 4],
 p 24 (.bin .lss) [.s 23, .c (.int .i64 24)],
 p 25 .mv [.s 24],
  ⟨26, true, .load (some 4), [.s 5], (some (25, true)), [], []⟩,
  ⟨27, true, .mv, [.s 6], (some (25, true)), [], []⟩,
  ⟨28, true, .call 332, [.s 26, .s 27], (some (25, true)), [], []⟩,
 p 29 .pick [.s 25, .s 28, .c ff]])
 (.cond (.s 29) (.reg [
 p 30 .mv [.s 3],
 p 31 .mv [.s 6],
 p 32 .mv [.s 4],
 p 33 (.iaddr 24) [.s 30, .s 31],
 p 34 (.iaddrA 24 1) [.s 33, .s 32],
  ⟨501, false, .store 1, [.s 34, .c (.bool true)], none, [], []⟩])
 .skip))))
 (.reg [
 p 35 (.bin .add) [.s 20, .c (.int .i64 1)],
 p 20 .mv [.s 35]])))))))))
 (.reg [
 p 36 (.bin .add) [.s 13, .c (.int .i64 1)],
 p 13 .mv [.s 36]])))))))
 (.seq (.reg [
 p 37 .mv [.s 3],
 p 2 .mv [.s 37]])
 .ret))))
def F305 : AFun where
  n := 9
  res := [.tmp 4]
  code := (.seq (.reg [
 p 4 .mv [.c ff]])
 (.seq (.reg [
 p 5 .mv [.s 0],
 p 6 .mv [.s 1],
 p 7 (.call 274) [.s 5, .s 6],
 p 8 (.bin .geq) [.s 7, .c zz],
 p 4 .mv [.s 8]])
 .ret))
def F306 : AFun where
  n := 7
  res := [.tmp 3]
  code := (.seq (.reg [
 p 3 .mv [.c ff]])
 (.seq (.reg [
 p 4 .mv [.s 0],
 p 5 (.load none) [.s 1],
 p 6 (.bin .gtr) [.s 4, .s 5],
 p 3 .mv [.s 6]])
 .ret))
def F307 : AFun where
  n := 6
  res := [.tmp 2]
  code := (.seq (.reg [
 p 1 (.box 4) [.s 0],
 p 2 .mv [.c ff]])
 (.seq (.reg [
 p 3 (.faddr 0) [.s 1],
 p 4 (.load none) [.s 3],
 p 5 (.bin .eql) [.s 4, .c (.int .i64 9)],
 p 2 .mv [.s 5]])
 .ret))
def F308 : AFun where
  n := 75
  res := [.cell 2 (some 3), .tmp 3]
  code := (.seq (.reg [
 p 2 (.zero [zz, zz, et]) [],
 p 3 .mv [.c ff]])
 (.seq (.seq (.reg [
 p 10 .mv [.s 0],
 p 11 (.call 248) [.s 10],
 p 12 (.un .not) [.s 11]])
 (.cond (.s 12) (.seq (.reg [
 p 13 (.build [zz, zz, et] []) [],
  ⟨500, false, .store 3, [.s 2, .s 13], none, [], []⟩,
 p 3 .mv [.c ff]])
 .ret)
 .skip))
 (.seq (.reg [
 p 14 .mv [.s 0],
 p 15 (.call 337) [.s 14],
 p 4 .mv [.s 15],
 p 5 .mv [.c zz]])
 (.seq (.reg [
 p 17 .mv [.s 0],
 p 18 (.call 303) [.s 17],
 p 16 .mv [.s 18],
 p 19 (.extract 0) [.s 16],
 p 20 (.extract 1) [.s 16],
 p 6 .mv [.s 19],
 p 7 .mv [.s 20]])
 (.seq (.reg [
 p 21 .mv [.s 4],
 p 22 (.call 338) [.s 21],
 p 23 (.faddr 0) [.s 2],
  ⟨501, false, .store 1, [.s 23, .s 22], none, [], []⟩])
 (.seq (.seq (.reg [
 p 24 .mv [.s 0],
 p 25 .len [.s 24],
 p 26 .mv [.c zz]])
 (.block 0 (.loop (.seq (.reg [
 p 27 (.bin .lss) [.s 26, .s 25]])
 (.seq (.cond (.s 27) .skip
 (.exit 0))
 (.seq (.block 1 (.seq (.reg [
 p 28 .mv [.s 26],
 p 29 (.iaddr 4) [.s 24, .s 26],
 p 30 (.load (some 4)) [.s 29],
 p 9 (.zero [zz, zz, zz, zz]) [],
 p 8 .mv [.s 28],
  ⟨502, false, .store 4, [.s 9, .s 30], none, [], []⟩])
 (.seq (.reg [
 p 31 (.faddr 0) [.s 9],
 p 32 (.load none) [.s 31]])
 (.block 2 (.seq (.seq (.reg [
 p 34 (.bin .eql) [.s 32, .c (.int .i64 11)],
 p 33 .mv [.s 34]])
 (.cond (.s 33) .skip
 (.reg [
 p 35 (.bin .eql) [.s 32, .c zz],
 p 33 .mv [.s 35]])))
 (.cond (.s 33) (.seq (.drw [
 p 36 (.faddr 1) [.s 2],
  ⟨37, true, .load none, [.s 36], none, [2], []⟩,
 p 38 .mv [.s 4],
 p 39 .mv [.s 5],
 p 40 .mv [.s 8],
 p 41 (.bin .add) [.s 40, .c (.int .i64 1)],
  ⟨42, true, .slice 1 true true, [.s 38, .s 39, .s 41], none, [15], []⟩,
  ⟨43, true, .call 338, [.s 42], none, [15], []⟩,
 p 44 .most [.s 37, .s 43],
 p 45 (.faddr 1) [.s 2],
  ⟨503, false, .store 1, [.s 45, .s 44], none, [2], [2]⟩])
 (.reg [
 p 46 .mv [.s 8],
 p 47 (.bin .add) [.s 46, .c (.int .i64 1)],
 p 5 .mv [.s 47]]))
 (.seq (.reg [
 p 49 (.bin .eql) [.s 32, .c (.int .i64 9)],
 p 48 .mv [.s 49]])
 (.cond (.s 48) (.drw [
 p 50 (.faddr 2) [.s 2],
  ⟨51, true, .load none, [.s 50], none, [2], []⟩,
 p 52 (.faddr 1) [.s 9],
  ⟨53, true, .load none, [.s 52], none, [9], []⟩,
 p 54 .mv [.s 4],
 p 55 .mv [.s 8],
 p 56 (.bin .add) [.s 55, .c (.int .i64 1)],
 p 57 .mv [.s 6],
 p 58 .mv [.s 8],
  ⟨59, true, .iaddr 1, [.s 57, .s 58], none, [18], []⟩,
  ⟨60, true, .load none, [.s 59], none, [18], []⟩,
 p 61 (.bin .add) [.s 60, .c (.int .i64 1)],
  ⟨62, true, .slice 1 true true, [.s 54, .s 56, .s 61], none, [15], []⟩,
  ⟨63, true, .call 338, [.s 62], none, [15], []⟩,
 p 64 .mv [.s 4],
 p 65 .mv [.s 8],
  ⟨66, true, .iaddr 1, [.s 64, .s 65], none, [15], []⟩,
  ⟨67, true, .load none, [.s 66], none, [15], []⟩,
 p 68 (.bin .quo) [.s 63, .s 67],
 p 69 (.build [zz, zz] [(0, 1), (1, 1)]) [.s 53, .s 68],
 p 70 (.buildSl 2 [zz, zz] 1 [0]) [.s 69],
  ⟨71, true, .app 2 16 [zz, zz], [.s 51, .s 70], none, [70, 71], [70, 71]⟩,
 p 72 (.faddr 2) [.s 2],
  ⟨504, false, .store 1, [.s 72, .s 71], none, [2, 70, 71], [2]⟩])
 .skip))))))))
 (.reg [
 p 73 (.bin .add) [.s 26, .c (.int .i64 1)],
 p 26 .mv [.s 73]])))))))
 (.seq (.reg [
 p 74 (.load (some 3)) [.s 2],
  ⟨505, false, .store 3, [.s 2, .s 74], none, [], []⟩,
 p 3 .mv [.c (.bool true)]])
 .ret)))))))
def F309 : AFun where
  n := 14
  res := []
  code := (.seq (.reg [
 p 4 .mv [.s 0],
 p 5 .mv [.s 1],
 p 6 (.slice 6 false true) [.s 4, .s 5],
 p 7 (.call 339) [.s 6]])
 (.seq (.reg [
 p 8 .mv [.s 0],
 p 9 .mv [.s 1],
 p 10 (.slice 6 true false) [.s 8, .s 9],
 p 11 (.call 339) [.s 10]])
 (.reg [
 p 12 .mv [.s 0],
 p 13 (.call 339) [.s 12]])))
def F310 : AFun where
  n := 31
  res := [.tmp 2]
  code := (.seq (.reg [
 p 2 .mv [.c ff]])
 (.seq (.seq (.reg [
 p 5 .mv [.s 0],
 p 6 .len [.s 5],
 p 7 .mv [.c zz]])
 (.block 0 (.loop (.seq (.reg [
 p 8 (.bin .lss) [.s 7, .s 6]])
 (.seq (.cond (.s 8) .skip
 (.exit 0))
 (.seq (.block 1 (.seq (.reg [
 p 9 .mv [.s 7],
 p 10 (.iaddr 6) [.s 5, .s 7],
 p 11 (.load (some 6)) [.s 10],
 p 4 (.zero [zz, zz, zz, et, et, et]) [],
 p 3 .mv [.s 9],
  ⟨500, false, .store 6, [.s 4, .s 11], none, [], []⟩])
 (.seq (.drw [
  ⟨12, true, .load (some 6), [.s 4], none, [4], []⟩,
 p 13 (.call 192) [.s 12],
 p 14 (.bin .neq) [.s 13, .c zz],
 p 15 .mv [.s 14],
  ⟨16, true, .mv, [.s 3], (some (15, false)), [], []⟩,
  ⟨17, true, .bin .gtr, [.s 16, .c zz], (some (15, false)), [], []⟩,
  ⟨18, true, .mv, [.s 17], (some (15, false)), [], []⟩,
  ⟨19, true, .mv, [.s 0], (some (18, true)), [], []⟩,
  ⟨20, true, .mv, [.s 3], (some (18, true)), [], []⟩,
  ⟨21, true, .bin .sub, [.s 20, .c (.int .i64 1)], (some (18, true)), [], []⟩,
  ⟨22, true, .iaddr 6, [.s 19, .s 21], (some (18, true)), [], []⟩,
  ⟨23, true, .faddr 0, [.s 22], (some (18, true)), [], []⟩,
  ⟨24, true, .load none, [.s 23], (some (18, true)), [], []⟩,
  ⟨25, true, .faddr 0, [.s 4], (some (18, true)), [], []⟩,
  ⟨26, true, .load none, [.s 25], (some (18, true)), [4], []⟩,
  ⟨27, true, .bin .geq, [.s 24, .s 26], (some (18, true)), [], []⟩,
  ⟨28, true, .pick, [.s 18, .s 27, .c ff], (some (15, false)), [], []⟩,
 p 29 .pick [.s 15, .c (.bool true), .s 28]])
 (.cond (.s 29) (.seq (.reg [
 p 2 .mv [.c ff]])
 .ret)
 .skip))))
 (.reg [
 p 30 (.bin .add) [.s 7, .c (.int .i64 1)],
 p 7 .mv [.s 30]])))))))
 (.seq (.reg [
 p 2 .mv [.c (.bool true)]])
 .ret)))
def F311 : AFun where
  n := 44
  res := []
  code := (.seq (.reg [
 p 11 .mv [.s 1],
 p 12 .mv [.s 2],
 p 13 (.call 340) [.s 11, .s 12],
 p 10 .mv [.s 13],
 p 14 (.extract 0) [.s 10],
 p 15 (.extract 1) [.s 10],
 p 6 .mv [.s 14],
 p 7 .mv [.s 15]])
 (.seq (.reg [
 p 17 .mv [.s 0],
 p 18 .nilck [.s 17],
 p 19 (.faddr 0) [.s 18],
 p 20 (.load none) [.s 19],
 p 21 .mv [.s 6],
 p 22 (.call 341) [.s 20, .s 21],
 p 16 .mv [.s 22],
 p 23 (.extract 0) [.s 16],
 p 24 (.extract 1) [.s 16],
 p 8 .mv [.s 23],
 p 9 .mv [.s 24]])
 (.reg [
 p 25 .mv [.s 0],
 p 26 .mv [.s 0],
 p 27 .mv [.s 8],
 p 28 .mv [.s 0],
 p 29 .nilck [.s 28],
 p 30 (.faddr 1) [.s 29],
 p 31 (.load none) [.s 30],
 p 32 .mv [.s 31],
  ⟨33, true, .mv, [.s 7], (some (32, false)), [], []⟩,
  ⟨34, true, .un .not, [.s 33], (some (32, false)), [], []⟩,
 p 35 .pick [.s 32, .c (.bool true), .s 34],
 p 36 .mv [.s 35],
  ⟨37, true, .mv, [.s 9], (some (36, false)), [], []⟩,
  ⟨38, true, .un .not, [.s 37], (some (36, false)), [], []⟩,
 p 39 .pick [.s 36, .c (.bool true), .s 38],
 p 40 .nilck [.s 25],
 p 41 (.faddr 0) [.s 40],
  ⟨500, false, .store 1, [.s 41, .s 27], none, [], []⟩,
 p 42 .nilck [.s 26],
 p 43 (.faddr 1) [.s 42],
  ⟨501, false, .store 1, [.s 43, .s 39], none, [], []⟩])))
def F312 : AFun where
  n := 14
  res := [.tmp 4]
  code := (.seq (.reg [
 p 4 .mv [.c zz]])
 (.seq (.reg [
 p 8 .mv [.s 0],
 p 9 .mv [.s 1],
 p 10 (.call 342) [.s 8, .s 9],
 p 7 .mv [.s 10],
 p 11 (.extract 0) [.s 7],
 p 12 (.extract 1) [.s 7],
 p 5 .mv [.s 11],
 p 6 .mv [.s 12]])
 (.seq (.reg [
 p 13 .mv [.s 5],
 p 4 .mv [.s 13]])
 .ret)))
def F313 : AFun where
  n := 36
  res := [.tmp 2]
  code := (.seq (.reg [
 p 2 .mv [.c et]])
 (.seq (.reg [
 p 3 .mv [.c zz]])
 (.seq (.seq (.reg [
 p 9 .mv [.s 0],
 p 10 .len [.s 9],
 p 11 .mv [.c zz]])
 (.block 0 (.loop (.seq (.reg [
 p 12 (.bin .lss) [.s 11, .s 10]])
 (.seq (.cond (.s 12) .skip
 (.exit 0))
 (.seq (.block 1 (.seq (.reg [
 p 13 (.iaddr 1) [.s 9, .s 11],
 p 14 (.load none) [.s 13],
 p 5 .mv [.s 14]])
 (.seq (.reg [
 p 15 .mv [.s 3],
 p 16 .mv [.s 5],
 p 17 .len [.s 16],
 p 18 (.bin .add) [.s 15, .s 17],
 p 3 .mv [.s 18]])
 (.seq (.reg [
 p 19 .mv [.s 3],
 p 20 (.bin .lss) [.s 19, .c zz]])
 (.cond (.s 20) (.reg [
 p 21 .bad [],
  ⟨500, false, .bad, [], none, [], []⟩])
 .skip)))))
 (.reg [
 p 22 (.bin .add) [.s 11, .c (.int .i64 1)],
 p 11 .mv [.s 22]])))))))
 (.seq (.reg [
 p 23 .mv [.s 3],
 p 24 (.call 343) [.c et, .s 23],
 p 6 .mv [.s 24]])
 (.seq (.seq (.reg [
 p 25 .mv [.s 0],
 p 26 .len [.s 25],
 p 27 .mv [.c zz]])
 (.block 2 (.loop (.seq (.reg [
 p 28 (.bin .lss) [.s 27, .s 26]])
 (.seq (.cond (.s 28) .skip
 (.exit 2))
 (.seq (.block 3 (.seq (.reg [
 p 29 (.iaddr 1) [.s 25, .s 27],
 p 30 (.load none) [.s 29],
 p 8 .mv [.s 30]])
 (.reg [
 p 31 .mv [.s 6],
 p 32 .mv [.s 8],
 p 33 (.app 2 16 [zz, zz]) [.s 31, .s 32],
 p 6 .mv [.s 33]])))
 (.reg [
 p 34 (.bin .add) [.s 27, .c (.int .i64 1)],
 p 27 .mv [.s 34]])))))))
 (.seq (.reg [
 p 35 .mv [.s 6],
 p 2 .mv [.s 35]])
 .ret))))))
def F314 : AFun where
  n := 26
  res := [.tmp 2]
  code := (.seq (.reg [
 p 1 (.box 2) [.s 0],
 p 2 .mv [.c .any]])
 (.seq (.reg [
 p 5 .mkmap [],
 p 3 .mv [.s 5]])
 (.seq (.seq (.reg [
 p 6 (.load (some 2)) [.s 1],
 p 7 (.call 259) [.s 6],
 p 8 .mv [.c zz]])
 (.block 0 (.loop (.seq (.reg [
 p 9 (.bin .lss) [.s 8, .s 7]])
 (.seq (.cond (.s 9) .skip
 (.exit 0))
 (.seq (.block 1 (.seq (.reg [
 p 10 .mv [.s 8],
 p 4 .mv [.s 10]])
 (.seq (.reg [
 p 11 (.faddr 1) [.s 1],
 p 12 (.load none) [.s 11],
 p 13 .mv [.s 4],
 p 14 (.iaddr 1) [.s 12, .s 13],
 p 15 (.load none) [.s 14]])
 (.cond (.s 15) (.reg [
 p 16 .mv [.s 3],
 p 17 .mv [.s 4],
 p 18 (.faddr 0) [.s 1],
 p 19 (.load none) [.s 18],
 p 20 .mv [.s 4],
 p 21 (.iaddr 1) [.s 19, .s 20],
 p 22 (.load none) [.s 21],
 p 23 (.build [zz, zz] [(0, 1), (1, 1)]) [.s 17, .s 22],
  ⟨500, false, .mapset true [some .i64, some .i64], [.s 16, .s 23, .c (.bool true)], none, [], []⟩])
 .skip))))
 (.reg [
 p 24 (.bin .add) [.s 8, .c (.int .i64 1)],
 p 8 .mv [.s 24]])))))))
 (.seq (.reg [
 p 25 .mv [.s 3],
 p 2 .mv [.s 25]])
 .ret))))
def F315 : AFun where
  n := 27
  res := [.tmp 4]
  code := (.seq (.reg [
 p 4 .mv [.c et]])
 (.seq (.seq (.reg [
 p 5 .mv [.s 1],
 p 6 (.bin .lss) [.s 5, .c zz]])
 (.cond (.s 6) (.reg [
 p 7 .bad [],
  ⟨500, false, .bad, [], none, [], []⟩])
 .skip))
 (.seq (.seq (.reg [
 p 8 .mv [.s 1],
 p 9 .mv [.s 0],
 p 10 .capE [.s 9],
 p 11 .mv [.s 0],
 p 12 .len [.s 11],
 p 13 (.bin .sub) [.s 10, .s 12],
 p 14 (.bin .sub) [.s 8, .s 13],
 p 1 .mv [.s 14]])
 (.seq (.reg [
 p 15 .mv [.s 1],
 p 16 (.bin .gtr) [.s 15, .c zz]])
 (.cond (.s 16) (.reg [
 p 17 .mv [.s 0],
 p 18 .mv [.s 0],
 p 19 .capE [.s 18],
 p 20 (.slice 1 false true) [.s 17, .s 19],
 p 21 .mv [.s 1],
 p 22 (.appZ 8 [zz]) [.s 20, .s 21],
 p 23 .mv [.s 0],
 p 24 .len [.s 23],
 p 25 (.slice 1 false true) [.s 22, .s 24],
 p 0 .mv [.s 25]])
 .skip)))
 (.seq (.reg [
 p 26 .mv [.s 0],
 p 4 .mv [.s 26]])
 .ret))))
def F316 : AFun where
  n := 24
  res := [.tmp 4]
  code := (.seq (.reg [
 p 2 (.box 28) [.s 0],
 p 4 .mv [.c zz]])
 (.seq (.block 0 (.seq (.reg [
 p 6 (.faddr 3) [.s 2],
 p 7 (.load none) [.s 6],
 p 8 (.bin .eql) [.s 7, .c (.int .i64 2)],
 p 5 .mv [.s 8]])
 (.cond (.s 5) (.seq (.reg [
 p 9 .mv [.s 1],
 p 10 .mv [.s 1],
 p 11 (.bin .add) [.s 9, .s 10],
 p 12 (.faddr 0) [.s 2],
 p 13 (.load none) [.s 12],
 p 14 (.bin .add) [.s 11, .s 13],
 p 4 .mv [.s 14]])
 .ret)
 (.seq (.reg [
 p 16 (.faddr 27) [.s 2],
 p 17 (.load none) [.s 16],
 p 15 .mv [.s 17]])
 (.cond (.s 15) (.seq (.reg [
 p 18 (.faddr 0) [.s 2],
 p 19 (.load none) [.s 18],
 p 4 .mv [.s 19]])
 .ret)
 .skip)))))
 (.seq (.reg [
 p 20 .mv [.s 1],
 p 21 (.faddr 0) [.s 2],
 p 22 (.load none) [.s 21],
 p 23 (.bin .add) [.s 20, .s 22],
 p 4 .mv [.s 23]])
 .ret)))
def F317 : AFun where
  n := 11
  res := [.tmp 2]
  code := (.seq (.reg [
 p 2 .mv [.c (.int .u64 0)]])
 (.seq (.seq (.reg [
 p 3 .mv [.s 0],
 p 4 (.bin .lss) [.s 3, .c zz],
 p 5 .mv [.s 4],
  ⟨6, true, .mv, [.s 0], (some (5, false)), [], []⟩,
  ⟨7, true, .bin .geq, [.s 6, .c (.int .i64 64)], (some (5, false)), [], []⟩,
 p 8 .pick [.s 5, .c (.bool true), .s 7]])
 (.cond (.s 8) (.seq (.reg [
 p 2 .mv [.c (.int .u64 0)]])
 .ret)
 .skip))
 (.seq (.reg [
 p 9 .mv [.s 0],
 p 10 (.bin .shl) [.c (.int .u64 1), .s 9],
 p 2 .mv [.s 10]])
 .ret)))
def F318 : AFun where
  n := 6
  res := [.tmp 2]
  code := (.seq (.reg [
 p 2 .mv [.c ff]])
 (.seq (.reg [
 p 3 .mv [.s 0],
 p 4 .mv [.s 0],
 p 5 (.bin .neq) [.s 3, .s 4],
 p 2 .mv [.s 5]])
 .ret))
def F319 : AFun where
  n := 8
  res := [.cell 2 (some 11)]
  code := (.seq (.reg [
 p 1 (.box 11) [.s 0],
 p 2 (.zero [zz, zz, zz, zz, zz, zz, zz, zz, zz, et, ff]) []])
 (.seq (.reg [
 p 3 (.faddr 9) [.s 1],
 p 4 (.load none) [.s 3],
 p 5 (.call 136) [.s 4],
 p 6 (.faddr 9) [.s 1],
  ⟨500, false, .store 1, [.s 6, .s 5], none, [], []⟩])
 (.seq (.reg [
 p 7 (.load (some 11)) [.s 1],
  ⟨501, false, .store 11, [.s 2, .s 7], none, [], []⟩])
 .ret)))
def F320 : AFun where
  n := 25
  res := [.tmp 4]
  code := (.seq (.reg [
 p 4 .mv [.c zz]])
 (.seq (.block 0 (.seq (.reg [
 p 6 .mv [.s 1],
 p 7 (.bin .leq) [.s 6, .c (.int .i64 (-64))],
 p 8 .mv [.s 7],
  ⟨9, true, .mv, [.s 1], (some (8, false)), [], []⟩,
  ⟨10, true, .bin .geq, [.s 9, .c (.int .i64 64)], (some (8, false)), [], []⟩,
 p 11 .pick [.s 8, .c (.bool true), .s 10],
 p 5 .mv [.s 11]])
 (.cond (.s 5) (.seq (.reg [
 p 12 .mv [.s 0],
 p 4 .mv [.s 12]])
 .ret)
 (.seq (.reg [
 p 14 .mv [.s 1],
 p 15 (.bin .lss) [.s 14, .c zz],
 p 13 .mv [.s 15]])
 (.cond (.s 13) (.seq (.reg [
 p 16 .mv [.s 0],
 p 17 .mv [.s 1],
 p 18 (.un .neg) [.s 17],
 p 19 (.bin .shr) [.s 16, .s 18],
 p 4 .mv [.s 19]])
 .ret)
 .skip)))))
 (.seq (.reg [
 p 20 .mv [.s 0],
 p 21 (.conv .u64) [.s 20],
 p 22 .mv [.s 1],
 p 23 (.bin .shl) [.s 21, .s 22],
 p 24 (.conv .i64) [.s 23],
 p 4 .mv [.s 24]])
 .ret)))
def F321 : AFun where
  n := 19
  res := [.tmp 4]
  code := (.seq (.reg [
 p 4 .mv [.c zz]])
 (.seq (.seq (.reg [
 p 5 .mv [.s 1],
 p 6 (.bin .lss) [.s 5, .c (.int .i64 1)],
 p 7 .mv [.s 6],
  ⟨8, true, .mv, [.s 1], (some (7, false)), [], []⟩,
  ⟨9, true, .bin .gtr, [.s 8, .c (.int .i64 64)], (some (7, false)), [], []⟩,
 p 10 .pick [.s 7, .c (.bool true), .s 9]])
 (.cond (.s 10) (.seq (.reg [
 p 11 .mv [.s 0],
 p 4 .mv [.s 11]])
 .ret)
 .skip))
 (.seq (.reg [
 p 12 .mv [.s 0],
 p 13 .mv [.s 1],
 p 14 (.bin .sub) [.c (.int .i64 64), .s 13],
 p 15 (.bin .shl) [.s 12, .s 14],
 p 16 .mv [.s 1],
 p 17 (.bin .sub) [.c (.int .i64 64), .s 16],
 p 18 (.bin .shr) [.s 15, .s 17],
 p 4 .mv [.s 18]])
 .ret)))
def F322 : AFun where
  n := 55
  res := [.cell 2 (some 11)]
  code := (.seq (.reg [
 p 1 (.box 11) [.s 0],
 p 2 (.zero [zz, zz, zz, zz, zz, zz, zz, zz, zz, et, ff]) []])
 (.seq (.seq (.reg [
 p 5 (.faddr 9) [.s 1],
 p 6 (.load none) [.s 5],
 p 7 .len [.s 6],
 p 3 .mv [.s 7]])
 (.block 0 (.loop (.seq (.seq (.drw [
 p 8 .mv [.s 3],
 p 9 (.bin .gtr) [.s 8, .c zz],
 p 10 .mv [.s 9],
  ⟨11, true, .faddr 9, [.s 1], (some (10, true)), [], []⟩,
  ⟨12, true, .load none, [.s 11], (some (10, true)), [1], []⟩,
  ⟨13, true, .mv, [.s 3], (some (10, true)), [], []⟩,
  ⟨14, true, .bin .sub, [.s 13, .c (.int .i64 1)], (some (10, true)), [], []⟩,
  ⟨15, true, .iaddr 3, [.s 12, .s 14], (some (10, true)), [], []⟩,
  ⟨16, true, .faddr 1, [.s 15], (some (10, true)), [], []⟩,
  ⟨17, true, .load none, [.s 16], (some (10, true)), [], []⟩,
  ⟨18, true, .faddr 0, [.s 1], (some (10, true)), [], []⟩,
  ⟨19, true, .load none, [.s 18], (some (10, true)), [1], []⟩,
  ⟨20, true, .bin .lss, [.s 17, .s 19], (some (10, true)), [], []⟩,
 p 21 .pick [.s 10, .s 20, .c ff]])
 (.cond (.s 21) .skip
 (.exit 0)))
 (.seq (.block 1 (.seq (.seq (.reg [
 p 25 (.faddr 9) [.s 1],
 p 26 (.load none) [.s 25],
 p 27 .mv [.s 3],
 p 28 (.bin .sub) [.s 27, .c (.int .i64 1)],
 p 29 (.iaddr 3) [.s 26, .s 28],
 p 4 .mv [.s 29]])
 (.seq (.reg [
 p 30 .mv [.s 4],
 p 31 .nilck [.s 30],
 p 32 (.faddr 2) [.s 31],
 p 33 (.load none) [.s 32],
 p 34 (.bin .gtr) [.s 33, .c zz]])
 (.cond (.s 34) (.seq (.reg [
 p 35 .mv [.s 4],
 p 36 .nilck [.s 35],
 p 37 (.faddr 0) [.s 36],
 p 38 (.load none) [.s 37],
 p 39 (.faddr 0) [.s 1],
  ⟨500, false, .store 1, [.s 39, .s 38], none, [], []⟩])
 (.seq (.reg [
 p 40 .mv [.s 4],
 p 41 .nilck [.s 40],
 p 42 (.faddr 2) [.s 41],
 p 43 (.load none) [.s 42],
 p 44 (.bin .sub) [.s 43, .c (.int .i64 1)],
 p 45 .nilck [.s 40],
 p 46 (.faddr 2) [.s 45],
  ⟨501, false, .store 1, [.s 46, .s 44], none, [], []⟩])
 (.seq (.reg [
 p 47 (.load (some 11)) [.s 1],
  ⟨502, false, .store 11, [.s 2, .s 47], none, [], []⟩])
 .ret)))
 .skip)))
 (.reg [
 p 48 (.faddr 9) [.s 1],
 p 49 (.load none) [.s 48],
 p 50 .mv [.s 3],
 p 51 (.bin .sub) [.s 50, .c (.int .i64 1)],
 p 52 (.slice 3 false true) [.s 49, .s 51],
 p 53 (.faddr 9) [.s 1],
  ⟨503, false, .store 1, [.s 53, .s 52], none, [], []⟩])))
 (.reg [
 p 22 (.faddr 9) [.s 1],
 p 23 (.load none) [.s 22],
 p 24 .len [.s 23],
 p 3 .mv [.s 24]]))))))
 (.seq (.reg [
 p 54 (.load (some 11)) [.s 1],
  ⟨504, false, .store 11, [.s 2, .s 54], none, [], []⟩])
 .ret)))
def F331 : AFun where
  n := 42
  res := [.tmp 2]
  code := (.seq (.reg [
 p 2 .mv [.c et]])
 (.seq (.seq (.reg [
 p 5 .mv [.s 0],
 p 6 .len [.s 5],
 p 7 .mv [.c zz]])
 (.block 0 (.loop (.seq (.reg [
 p 8 (.bin .lss) [.s 7, .s 6]])
 (.seq (.cond (.s 8) .skip
 (.exit 0))
 (.seq (.block 1 (.seq (.reg [
 p 9 .mv [.s 7],
 p 10 (.iaddr 4) [.s 5, .s 7],
 p 11 (.load (some 4)) [.s 10],
 p 4 (.zero [zz, zz, zz, zz]) [],
 p 3 .mv [.s 9],
  ⟨500, false, .store 4, [.s 4, .s 11], none, [], []⟩])
 (.seq (.reg [
 p 12 (.faddr 0) [.s 4],
 p 13 (.load none) [.s 12]])
 (.block 2 (.seq (.reg [
 p 15 (.bin .eql) [.s 13, .c (.int .i64 8)],
 p 14 .mv [.s 15]])
 (.cond (.s 14) (.reg [
 p 16 .mv [.s 2],
 p 17 .mv [.s 3],
 p 18 (.bin .add) [.s 17, .c (.int .i64 1)],
 p 19 .mv [.s 3],
 p 20 (.faddr 2) [.s 4],
 p 21 (.load none) [.s 20],
 p 22 (.bin .add) [.s 19, .s 21],
 p 23 .mv [.s 3],
 p 24 (.build [zz, zz, zz, ff] [(0, 1), (1, 1), (2, 1), (3, 1)]) [.s 18, .s 22, .s 23, .c (.bool true)],
 p 25 (.buildSl 4 [zz, zz, zz, ff] 1 [0]) [.s 24],
 p 26 (.app 4 32 [zz, zz, zz, ff]) [.s 16, .s 25],
 p 2 .mv [.s 26]])
 (.seq (.reg [
 p 28 (.bin .eql) [.s 13, .c (.int .i64 7)],
 p 27 .mv [.s 28]])
 (.cond (.s 27) (.reg [
 p 29 .mv [.s 2],
 p 30 .mv [.s 3],
 p 31 (.bin .add) [.s 30, .c (.int .i64 1)],
 p 32 .mv [.s 3],
 p 33 (.faddr 3) [.s 4],
 p 34 (.load none) [.s 33],
 p 35 (.bin .add) [.s 32, .s 34],
 p 36 .mv [.s 3],
 p 37 (.build [zz, zz, zz, ff] [(0, 1), (1, 1), (2, 1), (3, 1)]) [.s 31, .s 35, .s 36, .c ff],
 p 38 (.buildSl 4 [zz, zz, zz, ff] 1 [0]) [.s 37],
 p 39 (.app 4 32 [zz, zz, zz, ff]) [.s 29, .s 38],
 p 2 .mv [.s 39]])
 .skip))))))))
 (.reg [
 p 40 (.bin .add) [.s 7, .c (.int .i64 1)],
 p 7 .mv [.s 40]])))))))
 (.seq (.reg [
 p 41 .mv [.s 2],
 p 2 .mv [.s 41]])
 .ret)))
def F332 : AFun where
  n := 15
  res := [.tmp 4]
  code := (.seq (.reg [
 p 2 (.box 4) [.s 0],
 p 4 .mv [.c ff]])
 (.seq (.reg [
 p 5 .mv [.s 1],
 p 6 (.faddr 0) [.s 2],
 p 7 (.load none) [.s 6],
 p 8 (.bin .geq) [.s 5, .s 7],
 p 9 .mv [.s 8],
  ⟨10, true, .mv, [.s 1], (some (9, true)), [], []⟩,
  ⟨11, true, .faddr 1, [.s 2], (some (9, true)), [], []⟩,
  ⟨12, true, .load none, [.s 11], (some (9, true)), [], []⟩,
  ⟨13, true, .bin .leq, [.s 10, .s 12], (some (9, true)), [], []⟩,
 p 14 .pick [.s 9, .s 13, .c ff],
 p 4 .mv [.s 14]])
 .ret))
def F333 : AFun where
  n := 15
  res := [.tmp 4]
  code := (.seq (.reg [
 p 2 (.box 4) [.s 0],
 p 3 (.box 4) [.s 1],
 p 4 .mv [.c ff]])
 (.seq (.reg [
 p 5 (.load (some 4)) [.s 3],
 p 6 (.faddr 0) [.s 2],
 p 7 (.load none) [.s 6],
 p 8 (.call 332) [.s 5, .s 7],
 p 9 .mv [.s 8],
  ⟨10, true, .load (some 4), [.s 3], (some (9, true)), [], []⟩,
  ⟨11, true, .faddr 1, [.s 2], (some (9, true)), [], []⟩,
  ⟨12, true, .load none, [.s 11], (some (9, true)), [], []⟩,
  ⟨13, true, .call 332, [.s 10, .s 12], (some (9, true)), [], []⟩,
 p 14 .pick [.s 9, .s 13, .c ff],
 p 4 .mv [.s 14]])
 .ret))
def F334 : AFun where
  n := 17
  res := [.tmp 4]
  code := (.seq (.reg [
 p 2 (.box 4) [.s 0],
 p 3 (.box 4) [.s 1],
 p 4 .mv [.c ff]])
 (.seq (.reg [
 p 5 (.faddr 1) [.s 2],
 p 6 (.load none) [.s 5],
 p 7 (.faddr 0) [.s 3],
 p 8 (.load none) [.s 7],
 p 9 (.bin .lss) [.s 6, .s 8],
 p 10 .mv [.s 9],
  ⟨11, true, .faddr 1, [.s 3], (some (10, false)), [], []⟩,
  ⟨12, true, .load none, [.s 11], (some (10, false)), [], []⟩,
  ⟨13, true, .faddr 0, [.s 2], (some (10, false)), [], []⟩,
  ⟨14, true, .load none, [.s 13], (some (10, false)), [], []⟩,
  ⟨15, true, .bin .lss, [.s 12, .s 14], (some (10, false)), [], []⟩,
 p 16 .pick [.s 10, .c (.bool true), .s 15],
 p 4 .mv [.s 16]])
 .ret))
def F335 : AFun where
  n := 5
  res := [.tmp 2]
  code := (.seq (.reg [
 p 2 .mv [.c ff]])
 (.seq (.reg [
 p 3 .mv [.s 0],
 p 4 (.bin .gtr) [.s 3, .c (.int .i64 2)],
 p 2 .mv [.s 4]])
 .ret))
def F336 : AFun where
  n := 16
  res := [.tmp 4]
  code := (.seq (.reg [
 p 4 .mv [.c ff]])
 (.seq (.drw [
 p 5 (.load none) [.s 1],
 p 6 .mv [.s 0],
 p 7 (.iaddr 4) [.s 5, .s 6],
 p 8 (.faddr 1) [.s 7],
 p 9 (.load none) [.s 8],
 p 10 (.load none) [.s 1],
 p 11 (.load none) [.s 2],
 p 12 (.iaddr 4) [.s 10, .s 11],
 p 13 (.faddr 1) [.s 12],
 p 14 (.load none) [.s 13],
 p 15 (.bin .eql) [.s 9, .s 14],
 p 4 .mv [.s 15]])
 .ret))
def F337 : AFun where
  n := 55
  res := [.tmp 2]
  code := (.seq (.reg [
 p 2 .mv [.c et]])
 (.seq (.reg [
 p 8 .mv [.s 0],
 p 9 .len [.s 8],
 p 10 (.mkslice [zz] 8) [.s 9, .s 9],
 p 3 .mv [.s 10]])
 (.seq (.seq (.reg [
 p 11 .mv [.s 3],
 p 12 .len [.s 11],
 p 13 .mv [.c zz]])
 (.block 0 (.loop (.seq (.reg [
 p 14 (.bin .lss) [.s 13, .s 12]])
 (.seq (.cond (.s 14) .skip
 (.exit 0))
 (.seq (.block 1 (.seq (.reg [
 p 15 .mv [.s 13],
 p 4 .mv [.s 15]])
 (.reg [
 p 16 .mv [.s 3],
 p 17 .mv [.s 4],
 p 18 (.iaddr 1) [.s 16, .s 17],
  ⟨500, false, .store 1, [.s 18, .c (.int .i64 1)], none, [], []⟩])))
 (.reg [
 p 19 (.bin .add) [.s 13, .c (.int .i64 1)],
 p 13 .mv [.s 19]])))))))
 (.seq (.seq (.reg [
 p 20 .mv [.s 0],
 p 21 .len [.s 20],
 p 22 .mv [.c zz]])
 (.block 2 (.loop (.seq (.reg [
 p 23 (.bin .lss) [.s 22, .s 21]])
 (.seq (.cond (.s 23) .skip
 (.exit 2))
 (.seq (.block 3 (.seq (.reg [
 p 24 .mv [.s 22],
 p 25 (.iaddr 4) [.s 20, .s 22],
 p 26 (.load (some 4)) [.s 25],
 p 6 (.zero [zz, zz, zz, zz]) [],
 p 5 .mv [.s 24],
  ⟨501, false, .store 4, [.s 6, .s 26], none, [], []⟩])
 (.seq (.seq (.reg [
 p 27 (.faddr 0) [.s 6],
 p 28 (.load none) [.s 27],
 p 29 (.bin .neq) [.s 28, .c (.int .i64 8)]])
 (.cond (.s 29) (.exit 3)
 .skip))
 (.seq (.reg [
 p 30 .mv [.s 5],
 p 31 (.bin .add) [.s 30, .c (.int .i64 1)],
 p 7 .mv [.s 31]])
 (.block 4 (.loop (.seq (.seq (.reg [
 p 32 .mv [.s 7],
 p 33 .mv [.s 5],
 p 34 (.faddr 2) [.s 6],
 p 35 (.load none) [.s 34],
 p 36 (.bin .add) [.s 33, .s 35],
 p 37 (.bin .leq) [.s 32, .s 36]])
 (.cond (.s 37) .skip
 (.exit 4)))
 (.seq (.block 5 (.drw [
 p 41 .mv [.s 3],
 p 42 .mv [.s 7],
 p 43 .mv [.s 3],
 p 44 .mv [.s 7],
  ⟨45, true, .iaddr 1, [.s 43, .s 44], none, [10], []⟩,
  ⟨46, true, .load none, [.s 45], none, [10], []⟩,
 p 47 (.faddr 3) [.s 6],
  ⟨48, true, .load none, [.s 47], none, [6], []⟩,
 p 49 (.call 340) [.s 46, .s 48],
 p 40 .mv [.s 49],
 p 50 (.extract 0) [.s 40],
 p 51 (.extract 1) [.s 40],
  ⟨52, true, .iaddr 1, [.s 41, .s 42], none, [10], []⟩,
  ⟨502, false, .store 1, [.s 52, .s 50], none, [10], [10]⟩]))
 (.reg [
 p 38 .mv [.s 7],
 p 39 (.bin .add) [.s 38, .c (.int .i64 1)],
 p 7 .mv [.s 39]])))))))))
 (.reg [
 p 53 (.bin .add) [.s 22, .c (.int .i64 1)],
 p 22 .mv [.s 53]])))))))
 (.seq (.reg [
 p 54 .mv [.s 3],
 p 2 .mv [.s 54]])
 .ret)))))
def F338 : AFun where
  n := 19
  res := [.tmp 2]
  code := (.seq (.reg [
 p 2 .mv [.c zz]])
 (.seq (.seq (.reg [
 p 5 .mv [.s 0],
 p 6 .len [.s 5],
 p 7 .mv [.c zz]])
 (.block 0 (.loop (.seq (.reg [
 p 8 (.bin .lss) [.s 7, .s 6]])
 (.seq (.cond (.s 8) .skip
 (.exit 0))
 (.seq (.block 1 (.seq (.reg [
 p 9 (.iaddr 1) [.s 5, .s 7],
 p 10 (.load none) [.s 9],
 p 4 .mv [.s 10]])
 (.reg [
 p 12 .mv [.s 2],
 p 13 .mv [.s 4],
 p 14 (.call 341) [.s 12, .s 13],
 p 11 .mv [.s 14],
 p 15 (.extract 0) [.s 11],
 p 16 (.extract 1) [.s 11],
 p 2 .mv [.s 15]])))
 (.reg [
 p 17 (.bin .add) [.s 7, .c (.int .i64 1)],
 p 7 .mv [.s 17]])))))))
 (.seq (.reg [
 p 18 .mv [.s 2],
 p 2 .mv [.s 18]])
 .ret)))
def F339 : AFun where
  n := 28
  res := []
  code := (.seq (.reg [
 p 4 .mv [.s 0],
 p 5 .len [.s 4],
 p 6 (.bin .sub) [.s 5, .c (.int .i64 1)],
 p 2 .mv [.c zz],
 p 3 .mv [.s 6]])
 (.block 0 (.loop (.seq (.seq (.reg [
 p 7 .mv [.s 2],
 p 8 .mv [.s 3],
 p 9 (.bin .lss) [.s 7, .s 8]])
 (.cond (.s 9) .skip
 (.exit 0)))
 (.seq (.block 1 (.drw [
 p 14 .mv [.s 0],
 p 15 .mv [.s 2],
 p 16 .mv [.s 0],
 p 17 .mv [.s 3],
 p 18 .mv [.s 0],
 p 19 .mv [.s 3],
 p 20 (.iaddr 6) [.s 18, .s 19],
 p 21 (.load (some 6)) [.s 20],
 p 22 .mv [.s 0],
 p 23 .mv [.s 2],
 p 24 (.iaddr 6) [.s 22, .s 23],
 p 25 (.load (some 6)) [.s 24],
 p 26 (.iaddr 6) [.s 14, .s 15],
  ⟨500, false, .store 6, [.s 26, .s 21], none, [], []⟩,
 p 27 (.iaddr 6) [.s 16, .s 17],
  ⟨501, false, .store 6, [.s 27, .s 25], none, [], []⟩]))
 (.reg [
 p 10 .mv [.s 2],
 p 11 (.bin .add) [.s 10, .c (.int .i64 1)],
 p 12 .mv [.s 3],
 p 13 (.bin .sub) [.s 12, .c (.int .i64 1)],
 p 2 .mv [.s 11],
 p 3 .mv [.s 13]]))))))
def F340 : AFun where
  n := 45
  res := [.tmp 4, .tmp 5]
  code := (.seq (.reg [
 p 4 .mv [.c zz],
 p 5 .mv [.c ff]])
 (.seq (.reg [
 p 10 .mv [.s 0],
 p 11 (.bin .lss) [.s 10, .c zz],
 p 12 .mv [.s 1],
 p 13 (.bin .lss) [.s 12, .c zz],
 p 14 (.eqv false [none] true) [.s 11, .s 13],
 p 6 .mv [.s 14]])
 (.seq (.reg [
 p 7 .mv [.c (.int .u64 9223372036854775807)]])
 (.seq (.seq (.reg [
 p 15 .mv [.s 6]])
 (.cond (.s 15) (.reg [
 p 16 .mv [.s 7],
 p 17 (.bin .add) [.s 16, .c (.int .u64 1)],
 p 7 .mv [.s 17]])
 .skip))
 (.seq (.reg [
 p 19 .mv [.s 0],
 p 20 (.call 345) [.s 19],
 p 21 .mv [.s 1],
 p 22 (.call 345) [.s 21],
 p 23 (.call 344) [.s 20, .s 22],
 p 18 .mv [.s 23],
 p 24 (.extract 0) [.s 18],
 p 25 (.extract 1) [.s 18],
 p 8 .mv [.s 24],
 p 9 .mv [.s 25]])
 (.seq (.block 0 (.seq (.reg [
 p 27 .mv [.s 9],
 p 28 (.un .not) [.s 27],
 p 29 .mv [.s 28],
  ⟨30, true, .mv, [.s 8], (some (29, false)), [], []⟩,
  ⟨31, true, .mv, [.s 7], (some (29, false)), [], []⟩,
  ⟨32, true, .bin .gtr, [.s 30, .s 31], (some (29, false)), [], []⟩,
 p 33 .pick [.s 29, .c (.bool true), .s 32],
 p 26 .mv [.s 33]])
 (.cond (.s 26) (.seq (.reg [
 p 34 .mv [.s 6],
 p 35 (.call 346) [.s 34],
 p 36 (.extract 0) [.s 35],
 p 37 (.extract 1) [.s 35],
 p 4 .mv [.s 36],
 p 5 .mv [.s 37]])
 .ret)
 (.seq (.reg [
 p 39 .mv [.s 6],
 p 38 .mv [.s 39]])
 (.cond (.s 38) (.seq (.reg [
 p 40 .mv [.s 8],
 p 41 (.un .neg) [.s 40],
 p 42 (.conv .i64) [.s 41],
 p 4 .mv [.s 42],
 p 5 .mv [.c (.bool true)]])
 .ret)
 .skip)))))
 (.seq (.reg [
 p 43 .mv [.s 8],
 p 44 (.conv .i64) [.s 43],
 p 4 .mv [.s 44],
 p 5 .mv [.c (.bool true)]])
 .ret)))))))
def F341 : AFun where
  n := 27
  res := [.tmp 4, .tmp 5]
  code := (.seq (.reg [
 p 4 .mv [.c zz],
 p 5 .mv [.c ff]])
 (.seq (.reg [
 p 7 .mv [.s 0],
 p 8 (.conv .u64) [.s 7],
 p 9 .mv [.s 1],
 p 10 (.conv .u64) [.s 9],
 p 11 (.bin .add) [.s 8, .s 10],
 p 12 (.conv .i64) [.s 11],
 p 6 .mv [.s 12]])
 (.seq (.seq (.reg [
 p 13 .mv [.s 0],
 p 14 .mv [.s 6],
 p 15 (.bin .xor) [.s 13, .s 14],
 p 16 .mv [.s 1],
 p 17 .mv [.s 6],
 p 18 (.bin .xor) [.s 16, .s 17],
 p 19 (.bin .and) [.s 15, .s 18],
 p 20 (.bin .lss) [.s 19, .c zz]])
 (.cond (.s 20) (.seq (.reg [
 p 21 .mv [.s 0],
 p 22 (.bin .lss) [.s 21, .c zz],
 p 23 (.call 346) [.s 22],
 p 24 (.extract 0) [.s 23],
 p 25 (.extract 1) [.s 23],
 p 4 .mv [.s 24],
 p 5 .mv [.s 25]])
 .ret)
 .skip))
 (.seq (.reg [
 p 26 .mv [.s 6],
 p 4 .mv [.s 26],
 p 5 .mv [.c (.bool true)]])
 .ret))))
def F342 : AFun where
  n := 23
  res := [.tmp 4, .tmp 5]
  code := (.seq (.reg [
 p 4 .mv [.c zz],
 p 5 .mv [.c ff]])
 (.seq (.seq (.reg [
 p 7 .mv [.s 1],
 p 8 (.bin .lss) [.s 7, .c (.int .i64 1)],
 p 9 .mv [.s 8],
  ⟨10, true, .mv, [.s 0], (some (9, false)), [], []⟩,
  ⟨11, true, .bin .lss, [.s 10, .c zz], (some (9, false)), [], []⟩,
 p 12 .pick [.s 9, .c (.bool true), .s 11]])
 (.cond (.s 12) (.seq (.reg [
 p 4 .mv [.c zz],
 p 5 .mv [.c ff]])
 .ret)
 .skip))
 (.seq (.reg [
 p 13 .mv [.s 0],
 p 14 .mv [.s 1],
 p 15 (.bin .quo) [.s 13, .s 14],
 p 6 .mv [.s 15]])
 (.seq (.seq (.reg [
 p 16 .mv [.s 0],
 p 17 .mv [.s 1],
 p 18 (.bin .rem) [.s 16, .s 17],
 p 19 (.bin .gtr) [.s 18, .c zz]])
 (.cond (.s 19) (.reg [
 p 20 .mv [.s 6],
 p 21 (.bin .add) [.s 20, .c (.int .i64 1)],
 p 6 .mv [.s 21]])
 .skip))
 (.seq (.reg [
 p 22 .mv [.s 6],
 p 4 .mv [.s 22],
 p 5 .mv [.c (.bool true)]])
 .ret)))))
def F343 : AFun where
  n := 27
  res := [.tmp 4]
  code := (.seq (.reg [
 p 4 .mv [.c et]])
 (.seq (.seq (.reg [
 p 5 .mv [.s 1],
 p 6 (.bin .lss) [.s 5, .c zz]])
 (.cond (.s 6) (.reg [
 p 7 .bad [],
  ⟨500, false, .bad, [], none, [], []⟩])
 .skip))
 (.seq (.seq (.reg [
 p 8 .mv [.s 1],
 p 9 .mv [.s 0],
 p 10 .capE [.s 9],
 p 11 .mv [.s 0],
 p 12 .len [.s 11],
 p 13 (.bin .sub) [.s 10, .s 12],
 p 14 (.bin .sub) [.s 8, .s 13],
 p 1 .mv [.s 14]])
 (.seq (.reg [
 p 15 .mv [.s 1],
 p 16 (.bin .gtr) [.s 15, .c zz]])
 (.cond (.s 16) (.reg [
 p 17 .mv [.s 0],
 p 18 .mv [.s 0],
 p 19 .capE [.s 18],
 p 20 (.slice 2 false true) [.s 17, .s 19],
 p 21 .mv [.s 1],
 p 22 (.appZ 16 [zz, zz]) [.s 20, .s 21],
 p 23 .mv [.s 0],
 p 24 .len [.s 23],
 p 25 (.slice 2 false true) [.s 22, .s 24],
 p 0 .mv [.s 25]])
 .skip)))
 (.seq (.reg [
 p 26 .mv [.s 0],
 p 4 .mv [.s 26]])
 .ret))))
def F344 : AFun where
  n := 52
  res := [.tmp 4, .tmp 5]
  code := (.seq (.reg [
 p 4 .mv [.c (.int .u64 0)],
 p 5 .mv [.c ff]])
 (.seq (.reg [
 p 13 .mv [.s 0],
 p 14 (.bin .shr) [.s 13, .c (.int .u64 32)],
 p 15 .mv [.s 0],
 p 16 (.conv .u32) [.s 15],
 p 17 (.conv .u64) [.s 16],
 p 6 .mv [.s 14],
 p 7 .mv [.s 17]])
 (.seq (.reg [
 p 18 .mv [.s 1],
 p 19 (.bin .shr) [.s 18, .c (.int .u64 32)],
 p 20 .mv [.s 1],
 p 21 (.conv .u32) [.s 20],
 p 22 (.conv .u64) [.s 21],
 p 8 .mv [.s 19],
 p 9 .mv [.s 22]])
 (.seq (.reg [
 p 23 .mv [.s 6],
 p 24 .mv [.s 9],
 p 25 (.bin .mul) [.s 23, .s 24],
 p 26 .mv [.s 7],
 p 27 .mv [.s 8],
 p 28 (.bin .mul) [.s 26, .s 27],
 p 29 (.bin .or) [.s 25, .s 28],
 p 10 .mv [.s 29]])
 (.seq (.seq (.reg [
 p 30 .mv [.s 6],
 p 31 (.bin .gtr) [.s 30, .c (.int .u64 0)],
 p 32 .mv [.s 31],
  ⟨33, true, .mv, [.s 8], (some (32, true)), [], []⟩,
  ⟨34, true, .bin .gtr, [.s 33, .c (.int .u64 0)], (some (32, true)), [], []⟩,
 p 35 .pick [.s 32, .s 34, .c ff],
 p 36 .mv [.s 35],
  ⟨37, true, .mv, [.s 10], (some (36, false)), [], []⟩,
  ⟨38, true, .bin .shr, [.s 37, .c (.int .u64 32)], (some (36, false)), [], []⟩,
  ⟨39, true, .bin .gtr, [.s 38, .c (.int .u64 0)], (some (36, false)), [], []⟩,
 p 40 .pick [.s 36, .c (.bool true), .s 39]])
 (.cond (.s 40) (.seq (.reg [
 p 4 .mv [.c (.int .u64 0)],
 p 5 .mv [.c ff]])
 .ret)
 .skip))
 (.seq (.reg [
 p 41 .mv [.s 7],
 p 42 .mv [.s 9],
 p 43 (.bin .mul) [.s 41, .s 42],
 p 11 .mv [.s 43]])
 (.seq (.reg [
 p 44 .mv [.s 11],
 p 45 .mv [.s 10],
 p 46 (.bin .shl) [.s 45, .c (.int .u64 32)],
 p 47 (.bin .add) [.s 44, .s 46],
 p 12 .mv [.s 47]])
 (.seq (.reg [
 p 48 .mv [.s 12],
 p 49 .mv [.s 12],
 p 50 .mv [.s 11],
 p 51 (.bin .geq) [.s 49, .s 50],
 p 4 .mv [.s 48],
 p 5 .mv [.s 51]])
 .ret))))))))
def F345 : AFun where
  n := 10
  res := [.tmp 2]
  code := (.seq (.reg [
 p 2 .mv [.c (.int .u64 0)]])
 (.seq (.seq (.reg [
 p 3 .mv [.s 0],
 p 4 (.bin .lss) [.s 3, .c zz]])
 (.cond (.s 4) (.seq (.reg [
 p 5 .mv [.s 0],
 p 6 (.conv .u64) [.s 5],
 p 7 (.un .neg) [.s 6],
 p 2 .mv [.s 7]])
 .ret)
 .skip))
 (.seq (.reg [
 p 8 .mv [.s 0],
 p 9 (.conv .u64) [.s 8],
 p 2 .mv [.s 9]])
 .ret)))
def F346 : AFun where
  n := 5
  res := [.tmp 2, .tmp 3]
  code := (.seq (.reg [
 p 2 .mv [.c zz],
 p 3 .mv [.c ff]])
 (.seq (.seq (.reg [
 p 4 .mv [.s 0]])
 (.cond (.s 4) (.seq (.reg [
 p 2 .mv [.c (.int .i64 (-9223372036854775808))],
 p 3 .mv [.c ff]])
 .ret)
 .skip))
 (.seq (.reg [
 p 2 .mv [.c (.int .i64 9223372036854775807)],
 p 3 .mv [.c ff]])
 .ret)))
def F1007 : AFun where
  n := 163
  res := [.tmp 0]
  code := (.seq (.reg [
 p 0 .mv [.c ff]])
 (.seq (.seq (.reg [
 p 20 (.call 1009) [],
 p 21 (.un .not) [.s 20]])
 (.cond (.s 21) (.seq (.reg [
 p 0 .mv [.c ff]])
 .ret)
 .skip))
 (.seq (.reg [
 p 22 (.build [zz, zz, zz, zz] [(0, 1), (1, 1)]) [.c (.int .i64 1), .c (.int .i64 1)],
 p 23 (.build [zz, zz, zz, zz] [(0, 1)]) [.c zz],
 p 1 (.zero [zz, zz, zz, zz]) [],
 p 2 (.zero [zz, zz, zz, zz]) [],
  ⟨500, false, .store 4, [.s 1, .s 22], none, [], []⟩,
  ⟨501, false, .store 4, [.s 2, .s 23], none, [], []⟩])
 (.seq (.reg [
 p 24 (.build [zz, zz, zz, zz] [(0, 1)]) [.c (.int .i64 9)],
 p 25 (.build [zz, zz, zz, zz] [(0, 1)]) [.c (.int .i64 10)],
 p 3 (.zero [zz, zz, zz, zz]) [],
 p 4 (.zero [zz, zz, zz, zz]) [],
  ⟨502, false, .store 4, [.s 3, .s 24], none, [], []⟩,
  ⟨503, false, .store 4, [.s 4, .s 25], none, [], []⟩])
 (.seq (.reg [
 p 26 (.load (some 4)) [.s 3],
 p 27 (.load (some 4)) [.s 4],
 p 28 (.load (some 4)) [.s 2],
 p 29 (.buildSl 4 [zz, zz, zz, zz] 3 [0, 1, 2]) [.s 26, .s 27, .s 28],
 p 30 (.build [zz, zz, zz, et, et, et] [(0, 1), (1, 1), (2, 1), (3, 1)]) [.c zz, .c (.int .i64 50), .c (.int .i64 50), .s 29],
 p 5 (.zero [zz, zz, zz, et, et, et]) [],
  ⟨504, false, .store 6, [.s 5, .s 30], none, [], []⟩])
 (.seq (.reg [
 p 31 (.load (some 4)) [.s 3],
 p 32 (.load (some 4)) [.s 1],
 p 33 (.load (some 4)) [.s 4],
 p 34 (.load (some 4)) [.s 2],
 p 35 (.buildSl 4 [zz, zz, zz, zz] 4 [0, 1, 2, 3]) [.s 31, .s 32, .s 33, .s 34],
 p 36 (.load (some 4)) [.s 2],
 p 37 (.buildSl 4 [zz, zz, zz, zz] 1 [0]) [.s 36],
 p 38 (.build [zz, zz, zz, et, et, et] [(0, 1), (1, 1), (2, 1), (3, 1), (5, 1)]) [.c (.int .i64 1), .c (.int .i64 50), .c (.int .i64 50), .s 35, .s 37],
 p 6 (.zero [zz, zz, zz, et, et, et]) [],
  ⟨505, false, .store 6, [.s 6, .s 38], none, [], []⟩])
 (.seq (.reg [
 p 39 (.call 1010) [.c zz],
 p 7 (.zero [zz, zz, zz, zz, zz, et, et, et, zz, zz, zz, zz, (.int .u32 0), zz, zz]) [],
  ⟨506, false, .store 15, [.s 7, .s 39], none, [], []⟩])
 (.seq (.drw [
 p 40 (.build [zz, zz, zz, zz, et, et, et, zz, zz, zz, zz, (.int .u32 0)] [(0, 1)]) [.c (.int .i64 2)],
 p 41 (.call 17) [.s 40],
  ⟨42, true, .load (some 6), [.s 5], none, [5], []⟩,
  ⟨43, true, .build [zz, zz, zz, zz, et, et, et, zz, zz, zz, zz, (.int .u32 0)] [(0, 1), (1, 6)], [.c (.int .i64 1), .s 42], none, [29], []⟩,
  ⟨44, true, .call 17, [.s 43], none, [29], [29]⟩,
  ⟨45, true, .load (some 6), [.s 6], none, [6], []⟩,
  ⟨46, true, .build [zz, zz, zz, zz, et, et, et, zz, zz, zz, zz, (.int .u32 0)] [(0, 1), (1, 6)], [.c (.int .i64 1), .s 45], none, [35, 37], []⟩,
  ⟨47, true, .call 17, [.s 46], none, [35, 37], [35, 37]⟩,
 p 48 (.build [zz, zz, zz, zz, et, et, et, zz, zz, zz, zz, (.int .u32 0)] [(0, 1)]) [.c (.int .i64 5)],
 p 49 (.call 17) [.s 48],
 p 50 (.call 1010) [.c (.int .i64 1)],
 p 51 (.build [zz, zz, zz, zz, zz, et, et, et, zz, zz, zz, zz, (.int .u32 0), zz, zz] [(0, 1)]) [.c (.int .i64 2)],
  ⟨52, true, .load (some 15), [.s 7], none, [7], []⟩,
 p 53 (.build [zz, zz, zz, zz, zz, et, et, et, zz, zz, zz, zz, (.int .u32 0), zz, zz] [(0, 1), (14, 1)]) [.c (.int .i64 5), .c (.int .i64 2)],
 p 54 (.build [zz, zz, zz, zz, zz, et, et, et, zz, zz, zz, zz, (.int .u32 0), zz, zz] [(0, 1)]) [.c (.int .i64 3)],
 p 55 (.build [zz, zz, zz, zz, zz, et, et, et, zz, zz, zz, zz, (.int .u32 0), zz, zz] [(0, 1), (14, 1)]) [.c (.int .i64 5), .c (.int .i64 6)],
  ⟨56, true, .buildSlL 15 [zz, zz, zz, zz, zz, se, se, se, zz, zz, zz, zz, (.int .u32 0), zz, zz] 10 [0, 1, 2, 3, 4, 5, 6, 7, 8, 9], [.s 41, .s 44, .s 47, .s 49, .s 50, .s 51, .s 52, .s 53, .s 54, .s 55], none, [41, 44, 47, 49, 50, 39], [41, 44, 47, 49, 50, 39]⟩,
 p 8 .mv [.s 56]])
 (.seq (.reg [
 p 58 .mv [.s 8],
 p 59 (.call 9) [.c (.int .i64 100), .s 58],
 p 57 .mv [.s 59],
 p 60 (.extract 0) [.s 57],
 p 61 (.extract 1) [.s 57],
 p 62 (.extract 2) [.s 57],
 p 63 (.extract 3) [.s 57],
 p 9 (.zero [zz, zz, et, et, ff, ff, ff, et, et, et, et, et, et]) [],
  ⟨507, false, .store 13, [.s 9, .s 60], none, [], []⟩,
 p 10 .mv [.s 61],
 p 11 .mv [.s 62],
 p 12 .mv [.s 63]])
 (.seq (.reg [
 p 64 (.buildSl 1 [zz] 9 [0, 1, 2, 3, 4, 5, 6, 7, 8]) [.c (.int .i64 1), .c (.int .i64 1), .c (.int .i64 1), .c zz, .c zz, .c zz, .c zz, .c (.int .i64 1), .c (.int .i64 1)],
 p 13 .mv [.s 64]])
 (.seq (.reg [
 p 14 .mv [.c zz]])
 (.seq (.seq (.reg [
 p 15 .mv [.c zz]])
 (.block 0 (.loop (.seq (.seq (.reg [
 p 65 .mv [.s 15],
 p 66 .mv [.s 10],
 p 67 .len [.s 66],
 p 68 (.bin .lss) [.s 65, .s 67]])
 (.cond (.s 68) .skip
 (.exit 0)))
 (.seq (.block 1 (.seq (.seq (.reg [
 p 71 .mv [.s 10],
 p 72 .mv [.s 15],
 p 73 (.iaddr 6) [.s 71, .s 72],
 p 74 (.faddr 1) [.s 73],
 p 75 (.load none) [.s 74],
 p 76 (.bin .neq) [.s 75, .c (.int .i64 2)]])
 (.cond (.s 76) (.exit 1)
 .skip))
 (.seq (.seq (.drw [
 p 77 .mv [.s 14],
 p 78 .mv [.s 13],
 p 79 .len [.s 78],
 p 80 (.bin .geq) [.s 77, .s 79],
 p 81 .mv [.s 80],
  ⟨82, true, .mv, [.s 10], (some (81, false)), [], []⟩,
  ⟨83, true, .mv, [.s 15], (some (81, false)), [], []⟩,
  ⟨84, true, .iaddr 6, [.s 82, .s 83], (some (81, false)), [59], []⟩,
  ⟨85, true, .faddr 0, [.s 84], (some (81, false)), [], []⟩,
  ⟨86, true, .load none, [.s 85], (some (81, false)), [59], []⟩,
  ⟨87, true, .mv, [.s 14], (some (81, false)), [], []⟩,
  ⟨88, true, .bin .neq, [.s 86, .s 87], (some (81, false)), [], []⟩,
 p 89 .pick [.s 81, .c (.bool true), .s 88],
 p 90 .mv [.s 89],
  ⟨91, true, .mv, [.s 10], (some (90, false)), [], []⟩,
  ⟨92, true, .mv, [.s 15], (some (90, false)), [], []⟩,
  ⟨93, true, .iaddr 6, [.s 91, .s 92], (some (90, false)), [59], []⟩,
  ⟨94, true, .faddr 2, [.s 93], (some (90, false)), [], []⟩,
  ⟨95, true, .load none, [.s 94], (some (90, false)), [59], []⟩,
  ⟨96, true, .mv, [.s 13], (some (90, false)), [], []⟩,
  ⟨97, true, .mv, [.s 14], (some (90, false)), [], []⟩,
  ⟨98, true, .iaddr 1, [.s 96, .s 97], (some (90, false)), [64], []⟩,
  ⟨99, true, .load none, [.s 98], (some (90, false)), [64], []⟩,
  ⟨100, true, .bin .neq, [.s 95, .s 99], (some (90, false)), [], []⟩,
 p 101 .pick [.s 90, .c (.bool true), .s 100]])
 (.cond (.s 101) (.seq (.reg [
 p 0 .mv [.c ff]])
 .ret)
 .skip))
 (.reg [
 p 102 .mv [.s 14],
 p 103 (.bin .add) [.s 102, .c (.int .i64 1)],
 p 14 .mv [.s 103]]))))
 (.reg [
 p 69 .mv [.s 15],
 p 70 (.bin .add) [.s 69, .c (.int .i64 1)],
 p 15 .mv [.s 70]]))))))
 (.seq (.reg [
 p 16 .mv [.c et]])
 (.seq (.seq (.reg [
 p 17 .mv [.c zz]])
 (.block 2 (.loop (.seq (.seq (.reg [
 p 104 .mv [.s 17],
 p 105 .mv [.s 10],
 p 106 .len [.s 105],
 p 107 (.bin .lss) [.s 104, .s 106]])
 (.cond (.s 107) .skip
 (.exit 2)))
 (.seq (.block 3 (.seq (.reg [
 p 110 .mv [.s 10],
 p 111 .mv [.s 17],
 p 112 (.iaddr 6) [.s 110, .s 111],
 p 113 (.faddr 1) [.s 112],
 p 114 (.load none) [.s 113],
 p 115 (.bin .neq) [.s 114, .c (.int .i64 2)]])
 (.cond (.s 115) (.reg [
 p 116 .mv [.s 16],
 p 117 .mv [.s 10],
 p 118 .mv [.s 17],
 p 119 (.iaddr 6) [.s 117, .s 118],
 p 120 (.faddr 1) [.s 119],
 p 121 (.load none) [.s 120],
 p 122 (.buildSl 1 [zz] 1 [0]) [.s 121],
 p 123 (.app 1 8 [zz]) [.s 116, .s 122],
 p 16 .mv [.s 123]])
 .skip)))
 (.reg [
 p 108 .mv [.s 17],
 p 109 (.bin .add) [.s 108, .c (.int .i64 1)],
 p 17 .mv [.s 109]]))))))
 (.seq (.reg [
 p 124 (.buildSl 1 [zz] 6 [0, 1, 2, 3, 4, 5]) [.c (.int .i64 1), .c (.int .i64 1), .c (.int .i64 6), .c (.int .i64 3), .c (.int .i64 3), .c (.int .i64 4)],
 p 18 .mv [.s 124]])
 (.seq (.seq (.reg [
 p 125 .mv [.s 16],
 p 126 .len [.s 125],
 p 127 .mv [.s 18],
 p 128 .len [.s 127],
 p 129 (.bin .neq) [.s 126, .s 128]])
 (.cond (.s 129) (.seq (.reg [
 p 0 .mv [.c ff]])
 .ret)
 .skip))
 (.seq (.seq (.reg [
 p 19 .mv [.c zz]])
 (.block 4 (.loop (.seq (.seq (.reg [
 p 130 .mv [.s 19],
 p 131 .mv [.s 18],
 p 132 .len [.s 131],
 p 133 (.bin .lss) [.s 130, .s 132]])
 (.cond (.s 133) .skip
 (.exit 4)))
 (.seq (.block 5 (.seq (.drw [
 p 136 .mv [.s 16],
 p 137 .mv [.s 19],
  ⟨138, true, .iaddr 1, [.s 136, .s 137], none, [122, 123], []⟩,
  ⟨139, true, .load none, [.s 138], none, [122, 123], []⟩,
 p 140 .mv [.s 18],
 p 141 .mv [.s 19],
  ⟨142, true, .iaddr 1, [.s 140, .s 141], none, [124], []⟩,
  ⟨143, true, .load none, [.s 142], none, [124], []⟩,
 p 144 (.bin .neq) [.s 139, .s 143]])
 (.cond (.s 144) (.seq (.reg [
 p 0 .mv [.c ff]])
 .ret)
 .skip)))
 (.reg [
 p 134 .mv [.s 19],
 p 135 (.bin .add) [.s 134, .c (.int .i64 1)],
 p 19 .mv [.s 135]]))))))
 (.seq (.reg [
 p 145 .mv [.s 12],
 p 146 .mv [.s 145],
  ⟨147, true, .mv, [.s 14], (some (146, true)), [], []⟩,
  ⟨148, true, .mv, [.s 13], (some (146, true)), [], []⟩,
  ⟨149, true, .len, [.s 148], (some (146, true)), [], []⟩,
  ⟨150, true, .bin .eql, [.s 147, .s 149], (some (146, true)), [], []⟩,
 p 151 .pick [.s 146, .s 150, .c ff],
 p 152 .mv [.s 151],
  ⟨153, true, .faddr 0, [.s 9], (some (152, true)), [], []⟩,
  ⟨154, true, .load none, [.s 153], (some (152, true)), [], []⟩,
  ⟨155, true, .bin .eql, [.s 154, .c (.int .i64 9)], (some (152, true)), [], []⟩,
 p 156 .pick [.s 152, .s 155, .c ff],
 p 157 .mv [.s 156],
  ⟨158, true, .faddr 7, [.s 9], (some (157, true)), [], []⟩,
  ⟨159, true, .load none, [.s 158], (some (157, true)), [], []⟩,
  ⟨160, true, .len, [.s 159], (some (157, true)), [], []⟩,
  ⟨161, true, .bin .eql, [.s 160, .c zz], (some (157, true)), [], []⟩,
 p 162 .pick [.s 157, .s 161, .c ff],
 p 0 .mv [.s 162]])
 .ret))))))))))))))))))
def F1009 : AFun where
  n := 71
  res := [.tmp 0]
  code := (.seq (.reg [
 p 0 .mv [.c ff]])
 (.seq (.reg [
 p 13 (.build [zz, zz, zz, zz, zz, et, et, et, zz, zz, zz, zz, (.int .u32 0), zz, zz] [(0, 1)]) [.c (.int .i64 2)],
 p 14 (.build [zz, zz, zz, zz, zz, et, et, et, zz, zz, zz, zz, (.int .u32 0), zz, zz] [(0, 1), (14, 1)]) [.c (.int .i64 5), .c (.int .i64 3)],
 p 15 (.build [zz, zz, zz, zz, zz, et, et, et, zz, zz, zz, zz, (.int .u32 0), zz, zz] [(0, 1)]) [.c (.int .i64 9)],
 p 16 (.buildSl 15 [zz, zz, zz, zz, zz, se, se, se, zz, zz, zz, zz, (.int .u32 0), zz, zz] 3 [0, 1, 2]) [.s 13, .s 14, .s 15],
 p 17 (.call 9) [.c (.int .i64 10), .s 16],
 p 12 .mv [.s 17],
 p 18 (.extract 0) [.s 12],
 p 19 (.extract 1) [.s 12],
 p 20 (.extract 2) [.s 12],
 p 21 (.extract 3) [.s 12],
 p 1 (.zero [zz, zz, et, et, ff, ff, ff, et, et, et, et, et, et]) [],
  ⟨500, false, .store 13, [.s 1, .s 18], none, [], []⟩,
 p 2 .mv [.s 19],
 p 3 .mv [.s 20],
 p 4 .mv [.s 21]])
 (.seq (.reg [
 p 23 (.call 9) [.c zz, .c et],
 p 22 .mv [.s 23],
 p 24 (.extract 0) [.s 22],
 p 25 (.extract 1) [.s 22],
 p 26 (.extract 2) [.s 22],
 p 27 (.extract 3) [.s 22],
 p 5 (.zero [zz, zz, et, et, ff, ff, ff, et, et, et, et, et, et]) [],
  ⟨501, false, .store 13, [.s 5, .s 24], none, [], []⟩,
 p 6 .mv [.s 25],
 p 7 .mv [.s 26],
 p 8 .mv [.s 27]])
 (.seq (.reg [
 p 29 (.load (some 13)) [.s 1],
 p 30 (.build [zz, zz, zz, zz, zz, et, et, et, zz, zz, zz, zz, (.int .u32 0), zz, zz] [(0, 1)]) [.c (.int .i64 3)],
 p 31 (.call 23) [.s 29, .s 30],
 p 28 .mv [.s 31],
 p 32 (.extract 0) [.s 28],
 p 33 (.extract 1) [.s 28],
 p 34 (.extract 2) [.s 28],
 p 9 (.zero [zz, zz, et, et, ff, ff, ff, et, et, et, et, et, et]) [],
 p 11 (.zero [zz, zz, zz, zz]) [],
  ⟨502, false, .store 13, [.s 9, .s 32], none, [], []⟩,
 p 10 .mv [.s 33],
  ⟨503, false, .store 4, [.s 11, .s 34], none, [], []⟩])
 (.seq (.reg [
 p 35 .mv [.s 4],
 p 36 .mv [.s 35],
  ⟨37, true, .faddr 0, [.s 1], (some (36, true)), [], []⟩,
  ⟨38, true, .load none, [.s 37], (some (36, true)), [], []⟩,
  ⟨39, true, .bin .eql, [.s 38, .c (.int .i64 4)], (some (36, true)), [], []⟩,
 p 40 .pick [.s 36, .s 39, .c ff],
 p 41 .mv [.s 40],
  ⟨42, true, .mv, [.s 2], (some (41, true)), [], []⟩,
  ⟨43, true, .len, [.s 42], (some (41, true)), [], []⟩,
  ⟨44, true, .bin .eql, [.s 43, .c zz], (some (41, true)), [], []⟩,
 p 45 .pick [.s 41, .s 44, .c ff],
 p 46 .mv [.s 45],
  ⟨47, true, .mv, [.s 3], (some (46, true)), [], []⟩,
  ⟨48, true, .len, [.s 47], (some (46, true)), [], []⟩,
  ⟨49, true, .bin .eql, [.s 48, .c (.int .i64 3)], (some (46, true)), [], []⟩,
 p 50 .pick [.s 46, .s 49, .c ff],
 p 51 .mv [.s 50],
  ⟨52, true, .mv, [.s 3], (some (51, true)), [], []⟩,
  ⟨53, true, .iaddr 4, [.s 52, .c (.int .i64 2)], (some (51, true)), [], []⟩,
  ⟨54, true, .faddr 0, [.s 53], (some (51, true)), [], []⟩,
  ⟨55, true, .load none, [.s 54], (some (51, true)), [], []⟩,
  ⟨56, true, .bin .eql, [.s 55, .c (.int .i64 1)], (some (51, true)), [], []⟩,
 p 57 .pick [.s 51, .s 56, .c ff],
 p 58 .mv [.s 57],
  ⟨59, true, .mv, [.s 8], (some (58, true)), [], []⟩,
  ⟨60, true, .un .not, [.s 59], (some (58, true)), [], []⟩,
 p 61 .pick [.s 58, .s 60, .c ff],
 p 62 .mv [.s 61],
  ⟨63, true, .faddr 6, [.s 9], (some (62, true)), [], []⟩,
  ⟨64, true, .load none, [.s 63], (some (62, true)), [], []⟩,
 p 65 .pick [.s 62, .s 64, .c ff],
 p 66 .mv [.s 65],
  ⟨67, true, .faddr 0, [.s 11], (some (66, true)), [], []⟩,
  ⟨68, true, .load none, [.s 67], (some (66, true)), [], []⟩,
  ⟨69, true, .bin .eql, [.s 68, .c zz], (some (66, true)), [], []⟩,
 p 70 .pick [.s 66, .s 69, .c ff],
 p 0 .mv [.s 70]])
 .ret)))))
def F1010 : AFun where
  n := 6
  res := [.cell 2 (some 15)]
  code := (.seq (.reg [
 p 2 (.zero [zz, zz, zz, zz, zz, et, et, et, zz, zz, zz, zz, (.int .u32 0), zz, zz]) []])
 (.seq (.reg [
 p 3 .mv [.s 0],
 p 4 (.build [zz, zz, zz, zz, et, et, et, zz, zz, zz, zz, (.int .u32 0)] [(0, 1), (9, 1), (10, 1)]) [.c (.int .i64 6), .s 3, .c (.int .i64 5)],
 p 5 (.call 17) [.s 4],
  ⟨500, false, .store 15, [.s 2, .s 5], none, [], []⟩])
 .ret))
end Fo.Tryz
