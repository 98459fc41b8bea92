/-
  The functions that FaultLoses reaches, as the frame's own machine has them.
-/
import Derived.Test.YtildnnhlpdcglaaFoA45
namespace Fo.Try
open Go
abbrev p (d : Nat) (k : K) (xs : List AOpd) : AOp := ⟨d, true, k, xs, none, [], []⟩
abbrev zz : V := .int .i64 0
abbrev ff : V := .bool false
abbrev se : V := .sl []
abbrev et : V := .e true
def F60 : AFun where
  n := 59
  res := [.tmp 4]
  code := (.seq (.reg [
 p 2 (.box 28) [.s 0],
 p 3 (.box 28) [.s 1],
 p 4 .mv [.c ff]])
 (.seq (.reg [
 p 5 (.faddr 0) [.s 2],
 p 6 (.load none) [.s 5],
 p 7 (.faddr 0) [.s 3],
 p 8 (.load none) [.s 7],
 p 9 (.bin .eql) [.s 6, .s 8],
 p 10 .mv [.s 9],
  ⟨11, true, .faddr 1, [.s 2], (some (10, true)), [], []⟩,
  ⟨12, true, .load none, [.s 11], (some (10, true)), [], []⟩,
  ⟨13, true, .faddr 1, [.s 3], (some (10, true)), [], []⟩,
  ⟨14, true, .load none, [.s 13], (some (10, true)), [], []⟩,
  ⟨15, true, .bin .eql, [.s 12, .s 14], (some (10, true)), [], []⟩,
 p 16 .pick [.s 10, .s 15, .c ff],
 p 17 .mv [.s 16],
  ⟨18, true, .faddr 2, [.s 2], (some (17, true)), [], []⟩,
  ⟨19, true, .load none, [.s 18], (some (17, true)), [], []⟩,
  ⟨20, true, .faddr 2, [.s 3], (some (17, true)), [], []⟩,
  ⟨21, true, .load none, [.s 20], (some (17, true)), [], []⟩,
  ⟨22, true, .bin .eql, [.s 19, .s 21], (some (17, true)), [], []⟩,
 p 23 .pick [.s 17, .s 22, .c ff],
 p 24 .mv [.s 23],
  ⟨25, true, .faddr 3, [.s 2], (some (24, true)), [], []⟩,
  ⟨26, true, .load none, [.s 25], (some (24, true)), [], []⟩,
  ⟨27, true, .faddr 3, [.s 3], (some (24, true)), [], []⟩,
  ⟨28, true, .load none, [.s 27], (some (24, true)), [], []⟩,
  ⟨29, true, .bin .eql, [.s 26, .s 28], (some (24, true)), [], []⟩,
 p 30 .pick [.s 24, .s 29, .c ff],
 p 31 .mv [.s 30],
  ⟨32, true, .faddr 27, [.s 2], (some (31, true)), [], []⟩,
  ⟨33, true, .load none, [.s 32], (some (31, true)), [], []⟩,
  ⟨34, true, .faddr 27, [.s 3], (some (31, true)), [], []⟩,
  ⟨35, true, .load none, [.s 34], (some (31, true)), [], []⟩,
  ⟨36, true, .eqv false [none] false, [.s 33, .s 35], (some (31, true)), [], []⟩,
 p 37 .pick [.s 31, .s 36, .c ff],
 p 38 .mv [.s 37],
  ⟨39, true, .faddr 4, [.s 2], (some (38, true)), [], []⟩,
  ⟨40, true, .load (some 11), [.s 39], (some (38, true)), [], []⟩,
  ⟨41, true, .faddr 4, [.s 3], (some (38, true)), [], []⟩,
  ⟨42, true, .load (some 11), [.s 41], (some (38, true)), [], []⟩,
  ⟨43, true, .call 114, [.s 40, .s 42], (some (38, true)), [], []⟩,
 p 44 .pick [.s 38, .s 43, .c ff],
 p 45 .mv [.s 44],
  ⟨46, true, .faddr 15, [.s 2], (some (45, true)), [], []⟩,
  ⟨47, true, .load (some 11), [.s 46], (some (45, true)), [], []⟩,
  ⟨48, true, .faddr 15, [.s 3], (some (45, true)), [], []⟩,
  ⟨49, true, .load (some 11), [.s 48], (some (45, true)), [], []⟩,
  ⟨50, true, .call 114, [.s 47, .s 49], (some (45, true)), [], []⟩,
 p 51 .pick [.s 45, .s 50, .c ff],
 p 52 .mv [.s 51],
  ⟨53, true, .faddr 26, [.s 2], (some (52, true)), [], []⟩,
  ⟨54, true, .load none, [.s 53], (some (52, true)), [], []⟩,
  ⟨55, true, .faddr 26, [.s 3], (some (52, true)), [], []⟩,
  ⟨56, true, .load none, [.s 55], (some (52, true)), [], []⟩,
  ⟨57, true, .call 63, [.s 54, .s 56], (some (52, true)), [], []⟩,
 p 58 .pick [.s 52, .s 57, .c ff],
 p 4 .mv [.s 58]])
 .ret))
def F63 : AFun where
  n := 26
  res := [.tmp 4]
  code := (.seq (.reg [
 p 4 .mv [.c ff]])
 (.seq (.seq (.reg [
 p 6 .mv [.s 0],
 p 7 .len [.s 6],
 p 8 .mv [.s 1],
 p 9 .len [.s 8],
 p 10 (.bin .neq) [.s 7, .s 9]])
 (.cond (.s 10) (.seq (.reg [
 p 4 .mv [.c ff]])
 .ret)
 .skip))
 (.seq (.seq (.reg [
 p 5 .mv [.c zz]])
 (.block 0 (.loop (.seq (.seq (.reg [
 p 11 .mv [.s 5],
 p 12 .mv [.s 0],
 p 13 .len [.s 12],
 p 14 (.bin .lss) [.s 11, .s 13]])
 (.cond (.s 14) .skip
 (.exit 0)))
 (.seq (.block 1 (.seq (.drw [
 p 17 .mv [.s 0],
 p 18 .mv [.s 5],
 p 19 (.iaddr 1) [.s 17, .s 18],
 p 20 (.load none) [.s 19],
 p 21 .mv [.s 1],
 p 22 .mv [.s 5],
 p 23 (.iaddr 1) [.s 21, .s 22],
 p 24 (.load none) [.s 23],
 p 25 (.bin .neq) [.s 20, .s 24]])
 (.cond (.s 25) (.seq (.reg [
 p 4 .mv [.c ff]])
 .ret)
 .skip)))
 (.reg [
 p 15 .mv [.s 5],
 p 16 (.bin .add) [.s 15, .c (.int .i64 1)],
 p 5 .mv [.s 16]]))))))
 (.seq (.reg [
 p 4 .mv [.c (.bool true)]])
 .ret))))
def F114 : AFun where
  n := 52
  res := [.tmp 4]
  code := (.seq (.reg [
 p 2 (.box 11) [.s 0],
 p 3 (.box 11) [.s 1],
 p 4 .mv [.c ff]])
 (.seq (.seq (.reg [
 p 6 (.faddr 0) [.s 2],
 p 7 (.load none) [.s 6],
 p 8 (.faddr 0) [.s 3],
 p 9 (.load none) [.s 8],
 p 10 (.bin .neq) [.s 7, .s 9],
 p 11 .mv [.s 10],
  ⟨12, true, .faddr 1, [.s 2], (some (11, false)), [], []⟩,
  ⟨13, true, .load (some 8), [.s 12], (some (11, false)), [], []⟩,
  ⟨14, true, .faddr 1, [.s 3], (some (11, false)), [], []⟩,
  ⟨15, true, .load (some 8), [.s 14], (some (11, false)), [], []⟩,
  ⟨16, true, .eqv true [some .i64, some .i64, some .i64, some .i64, some .i64, some .i64, some .i64, some .i64] true, [.s 13, .s 15], (some (11, false)), [], []⟩,
 p 17 .pick [.s 11, .c (.bool true), .s 16],
 p 18 .mv [.s 17],
  ⟨19, true, .faddr 10, [.s 2], (some (18, false)), [], []⟩,
  ⟨20, true, .load none, [.s 19], (some (18, false)), [], []⟩,
  ⟨21, true, .faddr 10, [.s 3], (some (18, false)), [], []⟩,
  ⟨22, true, .load none, [.s 21], (some (18, false)), [], []⟩,
  ⟨23, true, .eqv false [none] true, [.s 20, .s 22], (some (18, false)), [], []⟩,
 p 24 .pick [.s 18, .c (.bool true), .s 23],
 p 25 .mv [.s 24],
  ⟨26, true, .faddr 9, [.s 2], (some (25, false)), [], []⟩,
  ⟨27, true, .load none, [.s 26], (some (25, false)), [], []⟩,
  ⟨28, true, .len, [.s 27], (some (25, false)), [], []⟩,
  ⟨29, true, .faddr 9, [.s 3], (some (25, false)), [], []⟩,
  ⟨30, true, .load none, [.s 29], (some (25, false)), [], []⟩,
  ⟨31, true, .len, [.s 30], (some (25, false)), [], []⟩,
  ⟨32, true, .bin .neq, [.s 28, .s 31], (some (25, false)), [], []⟩,
 p 33 .pick [.s 25, .c (.bool true), .s 32]])
 (.cond (.s 33) (.seq (.reg [
 p 4 .mv [.c ff]])
 .ret)
 .skip))
 (.seq (.seq (.reg [
 p 5 .mv [.c zz]])
 (.block 0 (.loop (.seq (.seq (.reg [
 p 34 .mv [.s 5],
 p 35 (.faddr 9) [.s 2],
 p 36 (.load none) [.s 35],
 p 37 .len [.s 36],
 p 38 (.bin .lss) [.s 34, .s 37]])
 (.cond (.s 38) .skip
 (.exit 0)))
 (.seq (.block 1 (.seq (.drw [
 p 41 (.faddr 9) [.s 2],
  ⟨42, true, .load none, [.s 41], none, [2], []⟩,
 p 43 .mv [.s 5],
 p 44 (.iaddr 3) [.s 42, .s 43],
 p 45 (.load (some 3)) [.s 44],
 p 46 (.faddr 9) [.s 3],
  ⟨47, true, .load none, [.s 46], none, [3], []⟩,
 p 48 .mv [.s 5],
 p 49 (.iaddr 3) [.s 47, .s 48],
 p 50 (.load (some 3)) [.s 49],
 p 51 (.eqv true [some .i64, some .i64, some .i64] true) [.s 45, .s 50]])
 (.cond (.s 51) (.seq (.reg [
 p 4 .mv [.c ff]])
 .ret)
 .skip)))
 (.reg [
 p 39 .mv [.s 5],
 p 40 (.bin .add) [.s 39, .c (.int .i64 1)],
 p 5 .mv [.s 40]]))))))
 (.seq (.reg [
 p 4 .mv [.c (.bool true)]])
 .ret))))
def F136 : AFun := cloneOf 3 24 [zz, zz, zz]
def F137 : AFun := cloneOf 1 8 [zz]
def F144 : AFun where
  n := 13
  res := [.cell 4 (some 28)]
  code := (.seq (.reg [
 p 2 (.box 28) [.s 0],
 p 3 (.box 1) [.s 1],
 p 4 (.zero [zz, zz, zz, zz, zz, zz, zz, zz, zz, zz, zz, zz, zz, et, ff, zz, zz, zz, zz, zz, zz, zz, zz, zz, et, ff, et, ff]) []])
 (.seq (.reg [
 p 5 (.load (some 28)) [.s 2],
 p 6 (.call 218) [.s 5],
  ⟨500, false, .store 28, [.s 2, .s 6], none, [], []⟩])
 (.seq (.reg [
 p 7 (.faddr 26) [.s 2],
 p 8 (.load none) [.s 7],
 p 9 (.mkfn 220 0) [.s 3],
 p 10 (.call 219) [.s 8, .s 9],
 p 11 (.faddr 26) [.s 2],
  ⟨501, false, .store 1, [.s 11, .s 10], none, [], []⟩])
 (.seq (.reg [
 p 12 (.load (some 28)) [.s 2],
  ⟨502, false, .store 28, [.s 4, .s 12], none, [], []⟩])
 .ret))))
def F155 : AFun where
  n := 7
  res := [.cell 2 (some 11)]
  code := (.seq (.reg [
 p 2 (.zero [zz, zz, zz, zz, zz, zz, zz, zz, zz, et, ff]) []])
 (.seq (.reg [
 p 3 .mv [.s 0],
 p 4 (.faddr 1) [.s 2],
 p 5 (.iaddrA 8 1) [.s 4, .c zz],
  ⟨500, false, .store 1, [.s 5, .s 3], none, [], []⟩])
 (.seq (.reg [
 p 6 (.load (some 11)) [.s 2],
  ⟨501, false, .store 11, [.s 2, .s 6], none, [], []⟩])
 .ret)))
def F170 : AFun where
  n := 16
  res := [.cell 6 (some 28)]
  code := (.seq (.reg [
 p 6 (.zero [zz, zz, zz, zz, zz, zz, zz, zz, zz, zz, zz, zz, zz, et, ff, zz, zz, zz, zz, zz, zz, zz, zz, zz, et, ff, et, ff]) []])
 (.seq (.reg [
 p 8 .mv [.s 2],
 p 9 (.call 239) [.s 8],
 p 7 (.zero [zz, zz, zz, zz, zz, zz, zz, zz, zz, et, ff]) [],
  ⟨500, false, .store 11, [.s 7, .s 9], none, [], []⟩])
 (.seq (.reg [
 p 10 .mv [.s 0],
 p 11 .mv [.s 1],
 p 12 .mv [.s 2],
 p 13 (.load (some 11)) [.s 7],
 p 14 (.load (some 11)) [.s 7],
 p 15 (.build [zz, zz, zz, zz, zz, zz, zz, zz, zz, zz, zz, zz, zz, et, ff, zz, zz, zz, zz, zz, zz, zz, zz, zz, et, ff, et, ff] [(0, 1), (1, 1), (2, 1), (4, 11), (15, 11)]) [.s 10, .s 11, .s 12, .s 13, .s 14],
  ⟨501, false, .store 28, [.s 6, .s 15], none, [], []⟩])
 .ret)))
def F216 : AFun where
  n := 24
  res := [.tmp 4]
  code := (.seq (.reg [
 p 4 .mv [.c et]])
 (.seq (.reg [
 p 7 .mv [.s 0],
 p 8 (.call 270) [.s 7],
 p 5 .mv [.s 8]])
 (.seq (.seq (.reg [
 p 9 .mv [.s 5],
 p 10 .len [.s 9],
 p 11 .mv [.c zz]])
 (.block 0 (.loop (.seq (.reg [
 p 12 (.bin .lss) [.s 11, .s 10]])
 (.seq (.cond (.s 12) .skip
 (.exit 0))
 (.seq (.block 1 (.seq (.reg [
 p 13 .mv [.s 11],
 p 6 .mv [.s 13]])
 (.seq (.reg [
 p 14 .mv [.s 0],
 p 15 .mv [.s 6],
 p 16 .mv [.s 1],
 p 17 (.call 271) [.s 14, .s 15, .s 16]])
 (.cond (.s 17) (.reg [
 p 18 .mv [.s 5],
 p 19 .mv [.s 6],
 p 20 (.iaddr 2) [.s 18, .s 19],
 p 21 (.faddr 1) [.s 20],
  ⟨500, false, .store 1, [.s 21, .c zz], none, [], []⟩])
 .skip))))
 (.reg [
 p 22 (.bin .add) [.s 11, .c (.int .i64 1)],
 p 11 .mv [.s 22]])))))))
 (.seq (.reg [
 p 23 .mv [.s 5],
 p 4 .mv [.s 23]])
 .ret))))
def F218 : AFun where
  n := 20
  res := [.cell 2 (some 28)]
  code := (.seq (.reg [
 p 1 (.box 28) [.s 0],
 p 2 (.zero [zz, zz, zz, zz, zz, zz, zz, zz, zz, zz, zz, zz, zz, et, ff, zz, zz, zz, zz, zz, zz, zz, zz, zz, et, ff, et, ff]) []])
 (.seq (.drw [
 p 3 (.faddr 4) [.s 1],
 p 4 (.faddr 9) [.s 3],
  ⟨5, true, .load none, [.s 4], none, [1], []⟩,
  ⟨6, true, .call 136, [.s 5], none, [6, 10, 13], [6, 10, 13]⟩,
 p 7 (.faddr 15) [.s 1],
 p 8 (.faddr 9) [.s 7],
  ⟨9, true, .load none, [.s 8], none, [1], []⟩,
  ⟨10, true, .call 136, [.s 9], none, [6, 10, 13], [6, 10, 13]⟩,
 p 11 (.faddr 26) [.s 1],
  ⟨12, true, .load none, [.s 11], none, [1], []⟩,
  ⟨13, true, .call 137, [.s 12], none, [6, 10, 13], [6, 10, 13]⟩,
 p 14 (.faddr 4) [.s 1],
 p 15 (.faddr 9) [.s 14],
  ⟨500, false, .store 1, [.s 15, .s 6], none, [1, 6], [1]⟩,
 p 16 (.faddr 15) [.s 1],
 p 17 (.faddr 9) [.s 16],
  ⟨501, false, .store 1, [.s 17, .s 10], none, [1, 10], [1]⟩,
 p 18 (.faddr 26) [.s 1],
  ⟨502, false, .store 1, [.s 18, .s 13], none, [1, 13], [1]⟩])
 (.seq (.reg [
 p 19 (.load (some 28)) [.s 1],
  ⟨503, false, .store 28, [.s 2, .s 19], none, [], []⟩])
 .ret)))
def F219 : AFun where
  n := 42
  res := [.tmp 4]
  code := (.seq (.reg [
 p 4 .mv [.c et]])
 (.seq (.reg [
 p 8 .mv [.s 0],
 p 9 .mv [.s 1],
 p 10 (.call 274) [.s 8, .s 9],
 p 5 .mv [.s 10]])
 (.seq (.seq (.reg [
 p 11 .mv [.s 5],
 p 12 (.bin .eql) [.s 11, .c (.int .i64 (-1))]])
 (.cond (.s 12) (.seq (.reg [
 p 13 .mv [.s 0],
 p 4 .mv [.s 13]])
 .ret)
 .skip))
 (.seq (.seq (.reg [
 p 14 .mv [.s 5],
 p 15 (.bin .add) [.s 14, .c (.int .i64 1)],
 p 6 .mv [.s 15]])
 (.block 0 (.loop (.seq (.seq (.reg [
 p 16 .mv [.s 6],
 p 17 .mv [.s 0],
 p 18 .len [.s 17],
 p 19 (.bin .lss) [.s 16, .s 18]])
 (.cond (.s 19) .skip
 (.exit 0)))
 (.seq (.block 1 (.seq (.reg [
 p 22 .mv [.s 0],
 p 23 .mv [.s 6],
 p 24 (.iaddr 1) [.s 22, .s 23],
 p 25 (.load none) [.s 24],
 p 7 .mv [.s 25]])
 (.seq (.reg [
 p 26 .mv [.s 1],
 p 27 .mv [.s 7],
 p 28 .callv [.s 26, .s 27],
 p 29 (.un .not) [.s 28]])
 (.cond (.s 29) (.seq (.reg [
 p 30 .mv [.s 0],
 p 31 .mv [.s 5],
 p 32 .mv [.s 7],
 p 33 (.iaddr 1) [.s 30, .s 31],
  ⟨500, false, .store 1, [.s 33, .s 32], none, [], []⟩])
 (.reg [
 p 34 .mv [.s 5],
 p 35 (.bin .add) [.s 34, .c (.int .i64 1)],
 p 5 .mv [.s 35]]))
 .skip))))
 (.reg [
 p 20 .mv [.s 6],
 p 21 (.bin .add) [.s 20, .c (.int .i64 1)],
 p 6 .mv [.s 21]]))))))
 (.seq (.reg [
 p 36 .mv [.s 0],
 p 37 .mv [.s 5],
 p 38 (.slice 1 true false) [.s 36, .s 37],
  ⟨501, false, .clear [zz], [.s 38], none, [], []⟩])
 (.seq (.reg [
 p 39 .mv [.s 0],
 p 40 .mv [.s 5],
 p 41 (.slice 1 false true) [.s 39, .s 40],
 p 4 .mv [.s 41]])
 .ret))))))
def F220 : AFun where
  n := 7
  res := [.tmp 3]
  code := (.seq (.reg [
 p 3 .mv [.c ff]])
 (.seq (.reg [
 p 4 .mv [.s 0],
 p 5 (.load none) [.s 1],
 p 6 (.bin .eql) [.s 4, .s 5],
 p 3 .mv [.s 6]])
 .ret))
def F228 : AFun where
  n := 31
  res := [.cell 6 (some 28), .tmp 7, .tmp 8]
  code := (.seq (.reg [
 p 3 (.box 6) [.s 0],
 p 4 (.box 28) [.s 1],
 p 6 (.zero [zz, zz, zz, zz, zz, zz, zz, zz, zz, zz, zz, zz, zz, et, ff, zz, zz, zz, zz, zz, zz, zz, zz, zz, et, ff, et, ff]) [],
 p 7 .mv [.c et],
 p 8 .mv [.c zz]])
 (.seq (.drw [
  ⟨9, true, .load (some 6), [.s 3], none, [3], []⟩,
  ⟨10, true, .load (some 28), [.s 4], none, [4], []⟩,
 p 11 (.call 288) [.s 9, .s 10],
 p 12 .mv [.s 2],
 p 13 (.faddr 0) [.s 4],
  ⟨14, true, .load none, [.s 13], none, [4], []⟩,
 p 15 (.call 216) [.s 12, .s 14],
  ⟨500, false, .store 28, [.s 6, .s 11], none, [6, 11], [6]⟩,
 p 7 .mv [.s 15],
 p 8 .mv [.c (.int .i64 6)]])
 (.seq (.block 0 (.seq (.reg [
 p 17 (.faddr 3) [.s 4],
 p 18 (.load none) [.s 17],
 p 19 (.bin .eql) [.s 18, .c (.int .i64 2)],
 p 16 .mv [.s 19]])
 (.cond (.s 16) (.reg [
 p 20 (.load (some 28)) [.s 4],
 p 21 (.call 218) [.s 20],
  ⟨501, false, .store 28, [.s 6, .s 21], none, [], []⟩,
 p 8 .mv [.c (.int .i64 13)]])
 (.seq (.reg [
 p 23 (.faddr 3) [.s 6],
 p 24 (.load none) [.s 23],
 p 25 (.faddr 3) [.s 4],
 p 26 (.load none) [.s 25],
 p 27 (.bin .neq) [.s 24, .s 26],
 p 22 .mv [.s 27]])
 (.cond (.s 22) (.reg [
 p 8 .mv [.c (.int .i64 7)]])
 .skip)))))
 (.seq (.reg [
 p 28 (.load (some 28)) [.s 6],
 p 29 .mv [.s 7],
 p 30 .mv [.s 8],
  ⟨502, false, .store 28, [.s 6, .s 28], none, [], []⟩,
 p 7 .mv [.s 29],
 p 8 .mv [.s 30]])
 .ret))))
def F239 : AFun where
  n := 9
  res := [.cell 2 (some 11)]
  code := (.seq (.reg [
 p 2 (.zero [zz, zz, zz, zz, zz, zz, zz, zz, zz, et, ff]) []])
 (.seq (.reg [
 p 4 (.build [zz, zz, zz, zz, zz, zz, zz, zz, zz, et, ff] []) [],
 p 3 (.zero [zz, zz, zz, zz, zz, zz, zz, zz, zz, et, ff]) [],
  ⟨500, false, .store 11, [.s 3, .s 4], none, [], []⟩])
 (.seq (.reg [
 p 5 .mv [.s 0],
 p 6 (.faddr 1) [.s 3],
 p 7 (.iaddrA 8 1) [.s 6, .c zz],
  ⟨501, false, .store 1, [.s 7, .s 5], none, [], []⟩])
 (.seq (.reg [
 p 8 (.load (some 11)) [.s 3],
  ⟨502, false, .store 11, [.s 2, .s 8], none, [], []⟩])
 .ret))))
def F270 : AFun := cloneOf 2 16 [zz, zz]
def F271 : AFun where
  n := 24
  res := [.tmp 6]
  code := (.seq (.reg [
 p 6 .mv [.c ff]])
 (.seq (.reg [
 p 7 .mv [.s 0],
 p 8 .mv [.s 1],
 p 9 (.call 286) [.s 7, .s 8],
 p 10 .mv [.s 9],
  ⟨11, true, .mv, [.s 2], (some (10, true)), [], []⟩,
  ⟨12, true, .bin .geq, [.s 11, .c zz], (some (10, true)), [], []⟩,
 p 13 .pick [.s 10, .s 12, .c ff],
 p 14 .mv [.s 13],
  ⟨15, true, .mv, [.s 0], (some (14, true)), [], []⟩,
  ⟨16, true, .mv, [.s 1], (some (14, true)), [], []⟩,
  ⟨17, true, .iaddr 2, [.s 15, .s 16], (some (14, true)), [], []⟩,
  ⟨18, true, .faddr 1, [.s 17], (some (14, true)), [], []⟩,
  ⟨19, true, .load none, [.s 18], (some (14, true)), [], []⟩,
  ⟨20, true, .mv, [.s 2], (some (14, true)), [], []⟩,
  ⟨21, true, .bin .add, [.s 20, .c (.int .i64 1)], (some (14, true)), [], []⟩,
  ⟨22, true, .bin .eql, [.s 19, .s 21], (some (14, true)), [], []⟩,
 p 23 .pick [.s 14, .s 22, .c ff],
 p 6 .mv [.s 23]])
 .ret))
def F274 : AFun where
  n := 19
  res := [.tmp 4]
  code := (.seq (.reg [
 p 4 .mv [.c zz]])
 (.seq (.seq (.reg [
 p 6 .mv [.s 0],
 p 7 .len [.s 6],
 p 8 .mv [.c zz]])
 (.block 0 (.loop (.seq (.reg [
 p 9 (.bin .lss) [.s 8, .s 7]])
 (.seq (.cond (.s 9) .skip
 (.exit 0))
 (.seq (.block 1 (.seq (.reg [
 p 10 .mv [.s 8],
 p 5 .mv [.s 10]])
 (.seq (.reg [
 p 11 .mv [.s 1],
 p 12 .mv [.s 0],
 p 13 .mv [.s 5],
 p 14 (.iaddr 1) [.s 12, .s 13],
 p 15 (.load none) [.s 14],
 p 16 .callv [.s 11, .s 15]])
 (.cond (.s 16) (.seq (.reg [
 p 17 .mv [.s 5],
 p 4 .mv [.s 17]])
 .ret)
 .skip))))
 (.reg [
 p 18 (.bin .add) [.s 8, .c (.int .i64 1)],
 p 8 .mv [.s 18]])))))))
 (.seq (.reg [
 p 4 .mv [.c (.int .i64 (-1))]])
 .ret)))
def F281 : AFun where
  n := 16
  res := [.cell 2 (some 28)]
  code := (.seq (.reg [
 p 1 (.box 28) [.s 0],
 p 2 (.zero [zz, zz, zz, zz, zz, zz, zz, zz, zz, zz, zz, zz, zz, et, ff, zz, zz, zz, zz, zz, zz, zz, zz, zz, et, ff, et, ff]) []])
 (.seq (.drw [
 p 3 (.faddr 4) [.s 1],
  ⟨4, true, .load (some 11), [.s 3], none, [1], []⟩,
  ⟨5, true, .call 284, [.s 4], none, [5, 8, 11], [5, 8, 11]⟩,
 p 6 (.faddr 15) [.s 1],
  ⟨7, true, .load (some 11), [.s 6], none, [1], []⟩,
  ⟨8, true, .call 284, [.s 7], none, [5, 8, 11], [5, 8, 11]⟩,
 p 9 (.faddr 26) [.s 1],
  ⟨10, true, .load none, [.s 9], none, [1], []⟩,
  ⟨11, true, .call 137, [.s 10], none, [5, 8, 11], [5, 8, 11]⟩,
 p 12 (.faddr 4) [.s 1],
  ⟨500, false, .store 11, [.s 12, .s 5], none, [1, 5], [1]⟩,
 p 13 (.faddr 15) [.s 1],
  ⟨501, false, .store 11, [.s 13, .s 8], none, [1, 8], [1]⟩,
 p 14 (.faddr 26) [.s 1],
  ⟨502, false, .store 1, [.s 14, .s 11], none, [1, 11], [1]⟩])
 (.seq (.reg [
 p 15 (.load (some 28)) [.s 1],
  ⟨503, false, .store 28, [.s 2, .s 15], none, [], []⟩])
 .ret)))
def F284 : AFun where
  n := 8
  res := [.cell 2 (some 11)]
  code := (.seq (.reg [
 p 1 (.box 11) [.s 0],
 p 2 (.zero [zz, zz, zz, zz, zz, zz, zz, zz, zz, et, ff]) []])
 (.seq (.reg [
 p 3 (.faddr 9) [.s 1],
 p 4 (.load none) [.s 3],
 p 5 (.call 136) [.s 4],
 p 6 (.faddr 9) [.s 1],
  ⟨500, false, .store 1, [.s 6, .s 5], none, [], []⟩])
 (.seq (.reg [
 p 7 (.load (some 11)) [.s 1],
  ⟨501, false, .store 11, [.s 2, .s 7], none, [], []⟩])
 .ret)))
def F286 : AFun where
  n := 13
  res := [.tmp 4]
  code := (.seq (.reg [
 p 4 .mv [.c ff]])
 (.seq (.reg [
 p 5 .mv [.s 1],
 p 6 (.bin .geq) [.s 5, .c zz],
 p 7 .mv [.s 6],
  ⟨8, true, .mv, [.s 1], (some (7, true)), [], []⟩,
  ⟨9, true, .mv, [.s 0], (some (7, true)), [], []⟩,
  ⟨10, true, .len, [.s 9], (some (7, true)), [], []⟩,
  ⟨11, true, .bin .lss, [.s 8, .s 10], (some (7, true)), [], []⟩,
 p 12 .pick [.s 7, .s 11, .c ff],
 p 4 .mv [.s 12]])
 .ret))
def F288 : AFun where
  n := 33
  res := [.cell 4 (some 28)]
  code := (.seq (.reg [
 p 2 (.box 6) [.s 0],
 p 3 (.box 28) [.s 1],
 p 4 (.zero [zz, zz, zz, zz, zz, zz, zz, zz, zz, zz, zz, zz, zz, et, ff, zz, zz, zz, zz, zz, zz, zz, zz, zz, et, ff, et, ff]) []])
 (.seq (.reg [
 p 6 (.load (some 28)) [.s 3],
 p 7 (.call 281) [.s 6],
 p 5 (.zero [zz, zz, zz, zz, zz, zz, zz, zz, zz, zz, zz, zz, zz, et, ff, zz, zz, zz, zz, zz, zz, zz, zz, zz, et, ff, et, ff]) [],
  ⟨500, false, .store 28, [.s 5, .s 7], none, [], []⟩])
 (.seq (.reg [
 p 8 (.faddr 26) [.s 5],
  ⟨501, false, .store 1, [.s 8, .c et], none, [], []⟩])
 (.seq (.seq (.reg [
 p 9 (.faddr 3) [.s 3],
 p 10 (.load none) [.s 9],
 p 11 (.bin .eql) [.s 10, .c zz],
 p 12 .mv [.s 11],
  ⟨13, true, .faddr 4, [.s 2], (some (12, true)), [], []⟩,
  ⟨14, true, .load none, [.s 13], (some (12, true)), [], []⟩,
  ⟨15, true, .len, [.s 14], (some (12, true)), [], []⟩,
  ⟨16, true, .bin .gtr, [.s 15, .c zz], (some (12, true)), [], []⟩,
 p 17 .pick [.s 12, .s 16, .c ff]])
 (.cond (.s 17) (.seq (.drw [
 p 18 (.faddr 2) [.s 3],
  ⟨19, true, .load none, [.s 18], none, [3], []⟩,
 p 20 (.call 155) [.s 19],
 p 21 (.faddr 2) [.s 3],
  ⟨22, true, .load none, [.s 21], none, [3], []⟩,
 p 23 (.call 155) [.s 22],
 p 24 (.faddr 3) [.s 5],
  ⟨502, false, .store 1, [.s 24, .c (.int .i64 1)], none, [5], [5]⟩,
 p 25 (.faddr 4) [.s 5],
  ⟨503, false, .store 11, [.s 25, .s 20], none, [5, 20], [5]⟩,
 p 26 (.faddr 15) [.s 5],
  ⟨504, false, .store 11, [.s 26, .s 23], none, [5, 23], [5]⟩])
 (.seq (.reg [
 p 27 (.load (some 28)) [.s 5],
  ⟨505, false, .store 28, [.s 4, .s 27], none, [], []⟩])
 .ret))
 .skip))
 (.seq (.reg [
 p 28 (.faddr 15) [.s 3],
 p 29 (.load (some 11)) [.s 28],
 p 30 (.call 284) [.s 29],
 p 31 (.faddr 4) [.s 5],
  ⟨506, false, .store 11, [.s 31, .s 30], none, [], []⟩])
 (.seq (.reg [
 p 32 (.load (some 28)) [.s 5],
  ⟨507, false, .store 28, [.s 4, .s 32], none, [], []⟩])
 .ret))))))
def F1002 : AFun where
  n := 89
  res := [.tmp 4]
  code := (.seq (.reg [
 p 4 .mv [.c ff]])
 (.seq (.seq (.reg [
 p 11 (.call 1004) [],
 p 12 (.un .not) [.s 11]])
 (.cond (.s 12) (.seq (.reg [
 p 4 .mv [.c ff]])
 .ret)
 .skip))
 (.seq (.seq (.reg [
 p 13 .mv [.s 0],
 p 14 .len [.s 13],
 p 15 (.bin .gtr) [.s 14, .c (.int .i64 6)]])
 (.cond (.s 15) (.seq (.reg [
 p 4 .mv [.c (.bool true)]])
 .ret)
 .skip))
 (.seq (.reg [
 p 16 (.call 170) [.c (.int .i64 2), .c (.int .i64 3), .c (.int .i64 4)],
 p 5 (.zero [zz, zz, zz, zz, zz, zz, zz, zz, zz, zz, zz, zz, zz, et, ff, zz, zz, zz, zz, zz, zz, zz, zz, zz, et, ff, et, ff]) [],
  ⟨500, false, .store 28, [.s 5, .s 16], none, [], []⟩])
 (.seq (.seq (.reg [
 p 6 .mv [.c zz]])
 (.block 0 (.loop (.seq (.seq (.reg [
 p 17 .mv [.s 6],
 p 18 .mv [.s 0],
 p 19 .len [.s 18],
 p 20 (.bin .lss) [.s 17, .s 19]])
 (.cond (.s 20) .skip
 (.exit 0)))
 (.seq (.block 1 (.drw [
 p 23 (.faddr 26) [.s 5],
  ⟨24, true, .load none, [.s 23], none, [5], []⟩,
 p 25 .mv [.s 0],
 p 26 .mv [.s 6],
 p 27 (.iaddr 1) [.s 25, .s 26],
 p 28 (.load none) [.s 27],
 p 29 (.bin .rem) [.s 28, .c (.int .u8 4)],
 p 30 (.conv .i64) [.s 29],
 p 31 (.buildSl 1 [zz] 1 [0]) [.s 30],
  ⟨32, true, .app 1 8 [zz], [.s 24, .s 31], none, [16, 31, 32], [16, 31, 32]⟩,
 p 33 (.faddr 26) [.s 5],
  ⟨501, false, .store 1, [.s 33, .s 32], none, [5, 16, 31, 32], [5]⟩]))
 (.reg [
 p 21 .mv [.s 6],
 p 22 (.bin .add) [.s 21, .c (.int .i64 1)],
 p 6 .mv [.s 22]]))))))
 (.seq (.reg [
 p 34 (.load (some 28)) [.s 5],
 p 35 .mv [.s 1],
 p 36 (.bin .rem) [.s 35, .c (.int .u8 4)],
 p 37 (.conv .i64) [.s 36],
 p 38 (.call 144) [.s 34, .s 37],
 p 7 (.zero [zz, zz, zz, zz, zz, zz, zz, zz, zz, zz, zz, zz, zz, et, ff, zz, zz, zz, zz, zz, zz, zz, zz, zz, et, ff, et, ff]) [],
  ⟨502, false, .store 28, [.s 7, .s 38], none, [], []⟩])
 (.seq (.reg [
 p 8 .mv [.c zz]])
 (.seq (.seq (.reg [
 p 9 .mv [.c zz]])
 (.block 2 (.loop (.seq (.seq (.reg [
 p 39 .mv [.s 9],
 p 40 (.faddr 26) [.s 5],
 p 41 (.load none) [.s 40],
 p 42 .len [.s 41],
 p 43 (.bin .lss) [.s 39, .s 42]])
 (.cond (.s 43) .skip
 (.exit 2)))
 (.seq (.block 3 (.seq (.seq (.reg [
 p 46 (.faddr 26) [.s 5],
 p 47 (.load none) [.s 46],
 p 48 .mv [.s 9],
 p 49 (.iaddr 1) [.s 47, .s 48],
 p 50 (.load none) [.s 49],
 p 51 .mv [.s 1],
 p 52 (.bin .rem) [.s 51, .c (.int .u8 4)],
 p 53 (.conv .i64) [.s 52],
 p 54 (.bin .eql) [.s 50, .s 53]])
 (.cond (.s 54) (.exit 3)
 .skip))
 (.seq (.seq (.drw [
 p 55 .mv [.s 8],
 p 56 (.faddr 26) [.s 7],
  ⟨57, true, .load none, [.s 56], none, [7], []⟩,
 p 58 .len [.s 57],
 p 59 (.bin .geq) [.s 55, .s 58],
 p 60 .mv [.s 59],
  ⟨61, true, .faddr 26, [.s 7], (some (60, false)), [], []⟩,
  ⟨62, true, .load none, [.s 61], (some (60, false)), [7], []⟩,
  ⟨63, true, .mv, [.s 8], (some (60, false)), [], []⟩,
  ⟨64, true, .iaddr 1, [.s 62, .s 63], (some (60, false)), [38], []⟩,
  ⟨65, true, .load none, [.s 64], (some (60, false)), [38], []⟩,
  ⟨66, true, .faddr 26, [.s 5], (some (60, false)), [], []⟩,
  ⟨67, true, .load none, [.s 66], (some (60, false)), [5], []⟩,
  ⟨68, true, .mv, [.s 9], (some (60, false)), [], []⟩,
  ⟨69, true, .iaddr 1, [.s 67, .s 68], (some (60, false)), [16, 31, 32], []⟩,
  ⟨70, true, .load none, [.s 69], (some (60, false)), [16, 31, 32], []⟩,
  ⟨71, true, .bin .neq, [.s 65, .s 70], (some (60, false)), [], []⟩,
 p 72 .pick [.s 60, .c (.bool true), .s 71]])
 (.cond (.s 72) (.seq (.reg [
 p 4 .mv [.c ff]])
 .ret)
 .skip))
 (.reg [
 p 73 .mv [.s 8],
 p 74 (.bin .add) [.s 73, .c (.int .i64 1)],
 p 8 .mv [.s 74]]))))
 (.reg [
 p 44 .mv [.s 9],
 p 45 (.bin .add) [.s 44, .c (.int .i64 1)],
 p 9 .mv [.s 45]]))))))
 (.seq (.reg [
 p 75 (.load (some 28)) [.s 7],
 p 10 (.zero [zz, zz, zz, zz, zz, zz, zz, zz, zz, zz, zz, zz, zz, et, ff, zz, zz, zz, zz, zz, zz, zz, zz, zz, et, ff, et, ff]) [],
  ⟨503, false, .store 28, [.s 10, .s 75], none, [], []⟩])
 (.seq (.reg [
 p 76 (.faddr 26) [.s 5],
 p 77 (.load none) [.s 76],
 p 78 (.faddr 26) [.s 10],
  ⟨504, false, .store 1, [.s 78, .s 77], none, [], []⟩])
 (.seq (.reg [
 p 79 .mv [.s 8],
 p 80 (.faddr 26) [.s 7],
 p 81 (.load none) [.s 80],
 p 82 .len [.s 81],
 p 83 (.bin .eql) [.s 79, .s 82],
 p 84 .mv [.s 83],
  ⟨85, true, .load (some 28), [.s 10], (some (84, true)), [], []⟩,
  ⟨86, true, .load (some 28), [.s 5], (some (84, true)), [], []⟩,
  ⟨87, true, .call 60, [.s 85, .s 86], (some (84, true)), [], []⟩,
 p 88 .pick [.s 84, .s 87, .c ff],
 p 4 .mv [.s 88]])
 .ret)))))))))))
def F1004 : AFun where
  n := 69
  res := [.tmp 0]
  code := (.seq (.reg [
 p 0 .mv [.c ff]])
 (.seq (.reg [
 p 9 (.build [zz, zz, zz, zz] [(0, 1)]) [.c zz],
 p 10 (.buildSl 4 [zz, zz, zz, zz] 1 [0]) [.s 9],
 p 11 (.build [zz, zz, zz, zz] [(0, 1)]) [.c zz],
 p 12 (.buildSl 4 [zz, zz, zz, zz] 1 [0]) [.s 11],
 p 13 (.build [zz, zz, zz, et, et, et] [(3, 1), (4, 1)]) [.s 10, .s 12],
 p 1 (.zero [zz, zz, zz, et, et, et]) [],
  ⟨500, false, .store 6, [.s 1, .s 13], none, [], []⟩])
 (.seq (.reg [
 p 14 (.call 170) [.c (.int .i64 1), .c zz, .c (.int .i64 7)],
 p 2 (.zero [zz, zz, zz, zz, zz, zz, zz, zz, zz, zz, zz, zz, zz, et, ff, zz, zz, zz, zz, zz, zz, zz, zz, zz, et, ff, et, ff]) [],
  ⟨501, false, .store 28, [.s 2, .s 14], none, [], []⟩])
 (.seq (.reg [
 p 15 (.buildSl 1 [zz] 1 [0]) [.c zz],
 p 16 (.faddr 26) [.s 2],
  ⟨502, false, .store 1, [.s 16, .s 15], none, [], []⟩])
 (.seq (.reg [
 p 18 (.load (some 6)) [.s 1],
 p 19 (.load (some 28)) [.s 2],
 p 20 (.build [zz, zz] [(1, 1)]) [.c (.int .i64 2)],
 p 21 (.buildSl 2 [zz, zz] 1 [0]) [.s 20],
 p 22 (.call 228) [.s 18, .s 19, .s 21],
 p 17 .mv [.s 22],
 p 23 (.extract 0) [.s 17],
 p 24 (.extract 1) [.s 17],
 p 25 (.extract 2) [.s 17],
 p 3 (.zero [zz, zz, zz, zz, zz, zz, zz, zz, zz, zz, zz, zz, zz, et, ff, zz, zz, zz, zz, zz, zz, zz, zz, zz, et, ff, et, ff]) [],
  ⟨503, false, .store 28, [.s 3, .s 23], none, [], []⟩,
 p 4 .mv [.s 24],
 p 5 .mv [.s 25]])
 (.seq (.reg [
 p 27 (.load (some 6)) [.s 1],
 p 28 (.load (some 28)) [.s 3],
 p 29 (.call 228) [.s 27, .s 28, .c et],
 p 26 .mv [.s 29],
 p 30 (.extract 0) [.s 26],
 p 31 (.extract 1) [.s 26],
 p 32 (.extract 2) [.s 26],
 p 6 (.zero [zz, zz, zz, zz, zz, zz, zz, zz, zz, zz, zz, zz, zz, et, ff, zz, zz, zz, zz, zz, zz, zz, zz, zz, et, ff, et, ff]) [],
  ⟨504, false, .store 28, [.s 6, .s 30], none, [], []⟩,
 p 7 .mv [.s 31],
 p 8 .mv [.s 32]])
 (.seq (.reg [
 p 33 .mv [.s 5],
 p 34 (.bin .eql) [.s 33, .c (.int .i64 7)],
 p 35 .mv [.s 34],
  ⟨36, true, .faddr 3, [.s 3], (some (35, true)), [], []⟩,
  ⟨37, true, .load none, [.s 36], (some (35, true)), [], []⟩,
  ⟨38, true, .bin .eql, [.s 37, .c (.int .i64 1)], (some (35, true)), [], []⟩,
 p 39 .pick [.s 35, .s 38, .c ff],
 p 40 .mv [.s 39],
  ⟨41, true, .faddr 26, [.s 3], (some (40, true)), [], []⟩,
  ⟨42, true, .load none, [.s 41], (some (40, true)), [], []⟩,
  ⟨43, true, .len, [.s 42], (some (40, true)), [], []⟩,
  ⟨44, true, .bin .eql, [.s 43, .c zz], (some (40, true)), [], []⟩,
 p 45 .pick [.s 40, .s 44, .c ff],
 p 46 .mv [.s 45],
  ⟨47, true, .mv, [.s 4], (some (46, true)), [], []⟩,
  ⟨48, true, .len, [.s 47], (some (46, true)), [], []⟩,
  ⟨49, true, .bin .eql, [.s 48, .c (.int .i64 1)], (some (46, true)), [], []⟩,
 p 50 .pick [.s 46, .s 49, .c ff],
 p 51 .mv [.s 50],
  ⟨52, true, .mv, [.s 4], (some (51, true)), [], []⟩,
  ⟨53, true, .iaddr 2, [.s 52, .c zz], (some (51, true)), [], []⟩,
  ⟨54, true, .faddr 1, [.s 53], (some (51, true)), [], []⟩,
  ⟨55, true, .load none, [.s 54], (some (51, true)), [], []⟩,
  ⟨56, true, .bin .eql, [.s 55, .c zz], (some (51, true)), [], []⟩,
 p 57 .pick [.s 51, .s 56, .c ff],
 p 58 .mv [.s 57],
  ⟨59, true, .mv, [.s 8], (some (58, true)), [], []⟩,
  ⟨60, true, .bin .eql, [.s 59, .c (.int .i64 6)], (some (58, true)), [], []⟩,
 p 61 .pick [.s 58, .s 60, .c ff],
 p 62 .mv [.s 61],
  ⟨63, true, .load (some 28), [.s 2], (some (62, true)), [], []⟩,
  ⟨64, true, .call 144, [.s 63, .c zz], (some (62, true)), [], []⟩,
  ⟨65, true, .field 26 none, [.s 64], (some (62, true)), [], []⟩,
  ⟨66, true, .len, [.s 65], (some (62, true)), [], []⟩,
  ⟨67, true, .bin .eql, [.s 66, .c zz], (some (62, true)), [], []⟩,
 p 68 .pick [.s 62, .s 67, .c ff],
 p 0 .mv [.s 68]])
 .ret)))))))
end Fo.Try
