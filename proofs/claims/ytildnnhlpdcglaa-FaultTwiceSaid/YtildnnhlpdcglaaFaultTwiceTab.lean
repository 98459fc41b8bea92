/-
  The functions that FaultTwice reaches, as the frame's own machine has them.
-/
import Derived.Test.YtildnnhlpdcglaaFoW
set_option linter.unusedVariables false
namespace Fo.W
open Go Fo
abbrev p (d : Nat) (k : K) (xs : List AOpd) : AOp := ⟨d, true, k, xs, none, [], []⟩
abbrev zz : V := .int .i64 0
abbrev ff : V := .bool false
abbrev se : V := .sl []
abbrev et : V := .e true
def F6 : AFun where
  n := 6
  res := [.tmp 2]
  code := (.seq (.reg [
 p 2 .mv [.c .any]])
 (.seq (.reg [
 p 3 .mv [.s 0],
 p 4 (.build [et, zz] [(0, 1)]) [.s 3],
 p 5 (.box 2) [.s 4],
 p 2 .mv [.s 5]])
 .ret))
def F18 : AFun where
  n := 36
  res := [.tmp 4]
  code := (.seq (.reg [
 p 4 .mv [.c zz]])
 (.seq (.seq (.drw [
 p 5 .mv [.s 0],
 p 6 .nilck [.s 5],
 p 7 (.faddr 1) [.s 6],
  ⟨8, true, .load none, [.s 7], none, [0], []⟩,
 p 9 .mv [.s 0],
 p 10 .nilck [.s 9],
 p 11 (.faddr 0) [.s 10],
  ⟨12, true, .load none, [.s 11], none, [0], []⟩,
 p 13 .len [.s 12],
 p 14 (.bin .geq) [.s 8, .s 13]])
 (.cond (.s 14) (.seq (.reg [
 p 4 .mv [.c zz]])
 .ret)
 .skip))
 (.seq (.reg [
 p 15 .mv [.s 0],
 p 16 .nilck [.s 15],
 p 17 (.faddr 1) [.s 16],
 p 18 (.load none) [.s 17],
 p 19 (.bin .add) [.s 18, .c (.int .i64 1)],
 p 20 .nilck [.s 15],
 p 21 (.faddr 1) [.s 20],
  ⟨500, false, .store 1, [.s 21, .s 19], none, [], []⟩])
 (.seq (.drw [
 p 22 .mv [.s 0],
 p 23 .nilck [.s 22],
 p 24 (.faddr 0) [.s 23],
  ⟨25, true, .load none, [.s 24], none, [0], []⟩,
 p 26 .mv [.s 0],
 p 27 .nilck [.s 26],
 p 28 (.faddr 1) [.s 27],
  ⟨29, true, .load none, [.s 28], none, [0], []⟩,
 p 30 (.bin .sub) [.s 29, .c (.int .i64 1)],
  ⟨31, true, .iaddr 1, [.s 25, .s 30], none, [0], []⟩,
  ⟨32, true, .load none, [.s 31], none, [0], []⟩,
 p 33 (.conv .i64) [.s 32],
 p 34 .mv [.s 1],
 p 35 (.bin .rem) [.s 33, .s 34],
 p 4 .mv [.s 35]])
 .ret))))
def F19 : AFun where
  n := 41
  res := [.cell 6 (some 6)]
  code := (.seq (.reg [
 p 6 (.zero [zz, zz, zz, et, et, et]) []])
 (.seq (.reg [
 p 8 .mv [.s 1],
 p 9 .mv [.s 0],
 p 10 .mv [.s 2],
 p 11 (.call 41) [.s 9, .s 10],
 p 12 (.build [zz, zz, zz, et, et, et] [(0, 1), (3, 1)]) [.s 8, .s 11],
 p 7 (.zero [zz, zz, zz, et, et, et]) [],
  ⟨500, false, .store 6, [.s 7, .s 12], none, [], []⟩])
 (.seq (.reg [
 p 13 .mv [.s 0],
 p 14 (.call 18) [.s 13, .c (.int .i64 12)],
 p 15 (.bin .mul) [.c (.int .i64 10), .s 14],
 p 16 (.bin .add) [.c (.int .i64 20), .s 15],
 p 17 (.faddr 1) [.s 7],
  ⟨501, false, .store 1, [.s 17, .s 16], none, [], []⟩])
 (.seq (.drw [
 p 18 (.faddr 1) [.s 7],
  ⟨19, true, .load none, [.s 18], none, [7], []⟩,
 p 20 .mv [.s 0],
  ⟨21, true, .call 18, [.s 20, .c (.int .i64 10)], none, [0, 11, 14, 21, 25, 31, 35, 38], [0, 11, 14, 21, 25, 31, 35, 38]⟩,
 p 22 (.bin .sub) [.s 19, .s 21],
 p 23 (.faddr 2) [.s 7],
  ⟨502, false, .store 1, [.s 23, .s 22], none, [7], [7]⟩])
 (.seq (.seq (.reg [
 p 24 .mv [.s 0],
 p 25 (.call 18) [.s 24, .c (.int .i64 3)],
 p 26 (.bin .eql) [.s 25, .c zz]])
 (.cond (.s 26) (.reg [
 p 27 (.build [zz, zz, zz, zz] [(0, 1), (1, 1), (3, 1)]) [.c (.int .i64 1), .c zz, .c (.int .i64 99)],
 p 28 (.build [zz, zz, zz, zz] [(0, 1)]) [.c zz],
 p 29 (.buildSl 4 [zz, zz, zz, zz] 2 [0, 1]) [.s 27, .s 28],
 p 30 .mv [.s 0],
 p 31 (.call 18) [.s 30, .c (.int .i64 2)],
 p 32 (.slice 4 true false) [.s 29, .s 31],
 p 33 (.faddr 4) [.s 7],
  ⟨503, false, .store 1, [.s 33, .s 32], none, [], []⟩])
 .skip))
 (.seq (.seq (.reg [
 p 34 .mv [.s 0],
 p 35 (.call 18) [.s 34, .c (.int .i64 3)],
 p 36 (.bin .eql) [.s 35, .c zz]])
 (.cond (.s 36) (.reg [
 p 37 .mv [.s 0],
 p 38 (.call 41) [.s 37, .c zz],
 p 39 (.faddr 5) [.s 7],
  ⟨504, false, .store 1, [.s 39, .s 38], none, [], []⟩])
 .skip))
 (.seq (.reg [
 p 40 (.load (some 6)) [.s 7],
  ⟨505, false, .store 6, [.s 6, .s 40], none, [], []⟩])
 .ret)))))))
def F41 : AFun where
  n := 66
  res := [.tmp 4]
  code := (.seq (.reg [
 p 4 .mv [.c et]])
 (.seq (.reg [
 p 5 .mv [.c et]])
 (.seq (.seq (.reg [
 p 10 .mv [.s 0],
 p 11 (.call 18) [.s 10, .c (.int .i64 4)],
 p 12 (.bin .add) [.s 11, .c (.int .i64 1)],
 p 6 .mv [.s 12]])
 (.block 0 (.loop (.seq (.seq (.reg [
 p 13 .mv [.s 6],
 p 14 (.bin .gtr) [.s 13, .c zz]])
 (.cond (.s 14) .skip
 (.exit 0)))
 (.seq (.block 1 (.seq (.reg [
 p 7 .mv [.c et]])
 (.seq (.seq (.reg [
 p 17 .mv [.s 0],
 p 18 (.call 18) [.s 17, .c (.int .i64 5)]])
 (.block 2 (.seq (.reg [
 p 23 (.bin .eql) [.s 18, .c zz],
 p 22 .mv [.s 23]])
 (.cond (.s 22) (.seq (.reg [
 p 24 .mv [.s 0],
 p 25 .mv [.s 1],
 p 26 (.call 69) [.s 24, .c (.int .i64 2), .s 25],
 p 8 .mv [.s 26]])
 (.reg [
 p 27 .mv [.s 8],
 p 28 .len [.s 27],
 p 29 .mv [.s 0],
 p 30 (.call 18) [.s 29, .c (.int .i64 3)],
 p 31 (.bin .add) [.c (.int .i64 1), .s 30],
 p 32 (.build [zz, zz, zz, zz] [(0, 1), (2, 1), (3, 1)]) [.c (.int .i64 8), .s 28, .s 31],
 p 33 (.buildSl 4 [zz, zz, zz, zz] 1 [0]) [.s 32],
 p 34 .mv [.s 8],
 p 35 (.app 4 32 [zz, zz, zz, zz]) [.s 33, .s 34],
 p 7 .mv [.s 35]]))
 (.seq (.reg [
 p 37 (.bin .eql) [.s 18, .c (.int .i64 1)],
 p 36 .mv [.s 37]])
 (.cond (.s 36) (.seq (.reg [
 p 38 .mv [.s 0],
 p 39 .mv [.s 1],
 p 40 (.call 69) [.s 38, .c (.int .i64 2), .s 39],
 p 9 .mv [.s 40]])
 (.reg [
 p 41 .mv [.s 0],
 p 42 (.call 18) [.s 41, .c (.int .i64 3)],
 p 43 .mv [.s 9],
 p 44 .len [.s 43],
 p 45 (.build [zz, zz, zz, zz] [(0, 1), (1, 1), (3, 1)]) [.c (.int .i64 7), .s 42, .s 44],
 p 46 (.buildSl 4 [zz, zz, zz, zz] 1 [0]) [.s 45],
 p 47 .mv [.s 9],
 p 48 (.app 4 32 [zz, zz, zz, zz]) [.s 46, .s 47],
 p 7 .mv [.s 48]]))
 (.seq (.reg [
 p 50 (.bin .eql) [.s 18, .c (.int .i64 2)],
 p 49 .mv [.s 50]])
 (.cond (.s 49) (.reg [
 p 51 (.build [zz, zz, zz, zz] [(0, 1)]) [.c (.int .i64 11)],
 p 52 (.buildSl 4 [zz, zz, zz, zz] 1 [0]) [.s 51],
 p 7 .mv [.s 52]])
 (.reg [
 p 19 .mv [.s 0],
 p 20 .mv [.s 1],
 p 21 (.call 69) [.s 19, .c (.int .i64 2), .s 20],
 p 7 .mv [.s 21]])))))))))
 (.seq (.reg [
 p 53 .mv [.s 5],
 p 54 .len [.s 53],
 p 55 .mv [.s 7],
 p 56 .len [.s 55],
 p 57 (.bin .add) [.s 54, .s 56],
 p 58 (.bin .lss) [.s 57, .c (.int .i64 23)]])
 (.cond (.s 58) (.reg [
 p 59 .mv [.s 5],
 p 60 .mv [.s 7],
 p 61 (.app 4 32 [zz, zz, zz, zz]) [.s 59, .s 60],
 p 5 .mv [.s 61]])
 .skip)))))
 (.reg [
 p 15 .mv [.s 6],
 p 16 (.bin .sub) [.s 15, .c (.int .i64 1)],
 p 6 .mv [.s 16]]))))))
 (.seq (.reg [
 p 62 .mv [.s 5],
 p 63 (.build [zz, zz, zz, zz] [(0, 1)]) [.c zz],
 p 64 (.buildSl 4 [zz, zz, zz, zz] 1 [0]) [.s 63],
 p 65 (.app 4 32 [zz, zz, zz, zz]) [.s 62, .s 64],
 p 4 .mv [.s 65]])
 .ret))))
def F60 : AFun where
  n := 59
  res := [.tmp 4]
  code := (.seq (.reg [
 p 2 (.box 28) [.s 0],
 p 3 (.box 28) [.s 1],
 p 4 .mv [.c ff]])
 (.seq (.reg [
 p 5 (.faddr 0) [.s 2],
 p 6 (.load none) [.s 5],
 p 7 (.faddr 0) [.s 3],
 p 8 (.load none) [.s 7],
 p 9 (.bin .eql) [.s 6, .s 8],
 p 10 .mv [.s 9],
  ⟨11, true, .faddr 1, [.s 2], (some (10, true)), [], []⟩,
  ⟨12, true, .load none, [.s 11], (some (10, true)), [], []⟩,
  ⟨13, true, .faddr 1, [.s 3], (some (10, true)), [], []⟩,
  ⟨14, true, .load none, [.s 13], (some (10, true)), [], []⟩,
  ⟨15, true, .bin .eql, [.s 12, .s 14], (some (10, true)), [], []⟩,
 p 16 .pick [.s 10, .s 15, .c ff],
 p 17 .mv [.s 16],
  ⟨18, true, .faddr 2, [.s 2], (some (17, true)), [], []⟩,
  ⟨19, true, .load none, [.s 18], (some (17, true)), [], []⟩,
  ⟨20, true, .faddr 2, [.s 3], (some (17, true)), [], []⟩,
  ⟨21, true, .load none, [.s 20], (some (17, true)), [], []⟩,
  ⟨22, true, .bin .eql, [.s 19, .s 21], (some (17, true)), [], []⟩,
 p 23 .pick [.s 17, .s 22, .c ff],
 p 24 .mv [.s 23],
  ⟨25, true, .faddr 3, [.s 2], (some (24, true)), [], []⟩,
  ⟨26, true, .load none, [.s 25], (some (24, true)), [], []⟩,
  ⟨27, true, .faddr 3, [.s 3], (some (24, true)), [], []⟩,
  ⟨28, true, .load none, [.s 27], (some (24, true)), [], []⟩,
  ⟨29, true, .bin .eql, [.s 26, .s 28], (some (24, true)), [], []⟩,
 p 30 .pick [.s 24, .s 29, .c ff],
 p 31 .mv [.s 30],
  ⟨32, true, .faddr 27, [.s 2], (some (31, true)), [], []⟩,
  ⟨33, true, .load none, [.s 32], (some (31, true)), [], []⟩,
  ⟨34, true, .faddr 27, [.s 3], (some (31, true)), [], []⟩,
  ⟨35, true, .load none, [.s 34], (some (31, true)), [], []⟩,
  ⟨36, true, .eqv false [none] false, [.s 33, .s 35], (some (31, true)), [], []⟩,
 p 37 .pick [.s 31, .s 36, .c ff],
 p 38 .mv [.s 37],
  ⟨39, true, .faddr 4, [.s 2], (some (38, true)), [], []⟩,
  ⟨40, true, .load (some 11), [.s 39], (some (38, true)), [], []⟩,
  ⟨41, true, .faddr 4, [.s 3], (some (38, true)), [], []⟩,
  ⟨42, true, .load (some 11), [.s 41], (some (38, true)), [], []⟩,
  ⟨43, true, .call 114, [.s 40, .s 42], (some (38, true)), [], []⟩,
 p 44 .pick [.s 38, .s 43, .c ff],
 p 45 .mv [.s 44],
  ⟨46, true, .faddr 15, [.s 2], (some (45, true)), [], []⟩,
  ⟨47, true, .load (some 11), [.s 46], (some (45, true)), [], []⟩,
  ⟨48, true, .faddr 15, [.s 3], (some (45, true)), [], []⟩,
  ⟨49, true, .load (some 11), [.s 48], (some (45, true)), [], []⟩,
  ⟨50, true, .call 114, [.s 47, .s 49], (some (45, true)), [], []⟩,
 p 51 .pick [.s 45, .s 50, .c ff],
 p 52 .mv [.s 51],
  ⟨53, true, .faddr 26, [.s 2], (some (52, true)), [], []⟩,
  ⟨54, true, .load none, [.s 53], (some (52, true)), [], []⟩,
  ⟨55, true, .faddr 26, [.s 3], (some (52, true)), [], []⟩,
  ⟨56, true, .load none, [.s 55], (some (52, true)), [], []⟩,
  ⟨57, true, .call 63, [.s 54, .s 56], (some (52, true)), [], []⟩,
 p 58 .pick [.s 52, .s 57, .c ff],
 p 4 .mv [.s 58]])
 .ret))
def F63 : AFun where
  n := 26
  res := [.tmp 4]
  code := (.seq (.reg [
 p 4 .mv [.c ff]])
 (.seq (.seq (.reg [
 p 6 .mv [.s 0],
 p 7 .len [.s 6],
 p 8 .mv [.s 1],
 p 9 .len [.s 8],
 p 10 (.bin .neq) [.s 7, .s 9]])
 (.cond (.s 10) (.seq (.reg [
 p 4 .mv [.c ff]])
 .ret)
 .skip))
 (.seq (.seq (.reg [
 p 5 .mv [.c zz]])
 (.block 0 (.loop (.seq (.seq (.reg [
 p 11 .mv [.s 5],
 p 12 .mv [.s 0],
 p 13 .len [.s 12],
 p 14 (.bin .lss) [.s 11, .s 13]])
 (.cond (.s 14) .skip
 (.exit 0)))
 (.seq (.block 1 (.seq (.drw [
 p 17 .mv [.s 0],
 p 18 .mv [.s 5],
 p 19 (.iaddr 1) [.s 17, .s 18],
 p 20 (.load none) [.s 19],
 p 21 .mv [.s 1],
 p 22 .mv [.s 5],
 p 23 (.iaddr 1) [.s 21, .s 22],
 p 24 (.load none) [.s 23],
 p 25 (.bin .neq) [.s 20, .s 24]])
 (.cond (.s 25) (.seq (.reg [
 p 4 .mv [.c ff]])
 .ret)
 .skip)))
 (.reg [
 p 15 .mv [.s 5],
 p 16 (.bin .add) [.s 15, .c (.int .i64 1)],
 p 5 .mv [.s 16]]))))))
 (.seq (.reg [
 p 4 .mv [.c (.bool true)]])
 .ret))))
def F69 : AFun where
  n := 47
  res := [.tmp 6]
  code := (.seq (.reg [
 p 6 .mv [.c et]])
 (.seq (.reg [
 p 7 .mv [.c et]])
 (.seq (.seq (.reg [
 p 10 .mv [.s 0],
 p 11 .mv [.s 1],
 p 12 (.call 18) [.s 10, .s 11],
 p 13 (.bin .add) [.s 12, .c (.int .i64 1)],
 p 8 .mv [.s 13]])
 (.block 0 (.loop (.seq (.seq (.reg [
 p 14 .mv [.s 8],
 p 15 (.bin .gtr) [.s 14, .c zz]])
 (.cond (.s 15) .skip
 (.exit 0)))
 (.seq (.block 1 (.seq (.reg [
 p 18 .mv [.s 2],
 p 19 (.bin .gtr) [.s 18, .c zz],
 p 20 .mv [.s 19],
  ⟨21, true, .mv, [.s 0], (some (20, true)), [], []⟩,
  ⟨22, true, .call 18, [.s 21, .c (.int .i64 4)], (some (20, true)), [], []⟩,
  ⟨23, true, .bin .eql, [.s 22, .c zz], (some (20, true)), [], []⟩,
 p 24 .pick [.s 20, .s 23, .c ff]])
 (.cond (.s 24) (.seq (.reg [
 p 25 .mv [.s 0],
 p 26 .mv [.s 2],
 p 27 (.call 18) [.s 25, .s 26],
 p 9 .mv [.s 27]])
 (.reg [
 p 28 .mv [.s 7],
 p 29 .mv [.s 9],
 p 30 (.build [zz, zz, zz, zz] [(0, 1), (1, 1)]) [.c (.int .i64 9), .s 29],
 p 31 (.buildSl 4 [zz, zz, zz, zz] 1 [0]) [.s 30],
 p 32 (.app 4 32 [zz, zz, zz, zz]) [.s 28, .s 31],
 p 33 .mv [.s 0],
 p 34 (.call 120) [.s 33],
 p 35 (.buildSl 4 [zz, zz, zz, zz] 1 [0]) [.s 34],
 p 36 (.app 4 32 [zz, zz, zz, zz]) [.s 32, .s 35],
 p 37 .mv [.s 9],
 p 38 (.build [zz, zz, zz, zz] [(0, 1), (1, 1)]) [.c (.int .i64 10), .s 37],
 p 39 (.buildSl 4 [zz, zz, zz, zz] 1 [0]) [.s 38],
 p 40 (.app 4 32 [zz, zz, zz, zz]) [.s 36, .s 39],
 p 7 .mv [.s 40]]))
 (.reg [
 p 41 .mv [.s 7],
 p 42 .mv [.s 0],
 p 43 (.call 120) [.s 42],
 p 44 (.buildSl 4 [zz, zz, zz, zz] 1 [0]) [.s 43],
 p 45 (.app 4 32 [zz, zz, zz, zz]) [.s 41, .s 44],
 p 7 .mv [.s 45]]))))
 (.reg [
 p 16 .mv [.s 8],
 p 17 (.bin .sub) [.s 16, .c (.int .i64 1)],
 p 8 .mv [.s 17]]))))))
 (.seq (.reg [
 p 46 .mv [.s 7],
 p 6 .mv [.s 46]])
 .ret))))
def F94 : AFun where
  n := 172
  res := [.tmp 2]
  code := (.seq (.reg [
 p 1 (.box 4) [.s 0],
 p 2 .mv [.c ff]])
 (.seq (.reg [
 p 4 (.build [zz] [(0, 1)]) [.c (.int .i64 8)],
 p 3 (.zero [zz]) [],
  ⟨500, false, .store 1, [.s 3, .s 4], none, [], []⟩])
 (.seq (.seq (.reg [
 p 5 (.faddr 0) [.s 1],
 p 6 (.load none) [.s 5]])
 (.block 0 (.seq (.seq (.reg [
 p 8 (.bin .eql) [.s 6, .c zz],
 p 7 .mv [.s 8]])
 (.cond (.s 7) .skip
 (.reg [
 p 9 (.bin .eql) [.s 6, .c (.int .i64 11)],
 p 7 .mv [.s 9]])))
 (.cond (.s 7) (.seq (.reg [
 p 10 (.faddr 1) [.s 1],
 p 11 (.load none) [.s 10],
 p 12 (.bin .eql) [.s 11, .c zz],
 p 13 .mv [.s 12],
  ⟨14, true, .faddr 2, [.s 1], (some (13, true)), [], []⟩,
  ⟨15, true, .load none, [.s 14], (some (13, true)), [], []⟩,
  ⟨16, true, .bin .eql, [.s 15, .c zz], (some (13, true)), [], []⟩,
 p 17 .pick [.s 13, .s 16, .c ff],
 p 18 .mv [.s 17],
  ⟨19, true, .faddr 3, [.s 1], (some (18, true)), [], []⟩,
  ⟨20, true, .load none, [.s 19], (some (18, true)), [], []⟩,
  ⟨21, true, .bin .eql, [.s 20, .c zz], (some (18, true)), [], []⟩,
 p 22 .pick [.s 18, .s 21, .c ff],
 p 2 .mv [.s 22]])
 .ret)
 (.seq (.reg [
 p 24 (.bin .eql) [.s 6, .c (.int .i64 1)],
 p 23 .mv [.s 24]])
 (.cond (.s 23) (.seq (.reg [
 p 25 (.load (some 1)) [.s 3],
 p 26 (.faddr 1) [.s 1],
 p 27 (.load none) [.s 26],
 p 28 (.call 158) [.s 25, .s 27],
 p 29 .mv [.s 28],
  ⟨30, true, .faddr 2, [.s 1], (some (29, true)), [], []⟩,
  ⟨31, true, .load none, [.s 30], (some (29, true)), [], []⟩,
  ⟨32, true, .bin .eql, [.s 31, .c zz], (some (29, true)), [], []⟩,
 p 33 .pick [.s 29, .s 32, .c ff],
 p 34 .mv [.s 33],
  ⟨35, true, .faddr 3, [.s 1], (some (34, true)), [], []⟩,
  ⟨36, true, .load none, [.s 35], (some (34, true)), [], []⟩,
  ⟨37, true, .bin .geq, [.s 36, .c (.int .i64 (-2147483648))], (some (34, true)), [], []⟩,
 p 38 .pick [.s 34, .s 37, .c ff],
 p 39 .mv [.s 38],
  ⟨40, true, .faddr 3, [.s 1], (some (39, true)), [], []⟩,
  ⟨41, true, .load none, [.s 40], (some (39, true)), [], []⟩,
  ⟨42, true, .bin .lss, [.s 41, .c (.int .i64 2147483648)], (some (39, true)), [], []⟩,
 p 43 .pick [.s 39, .s 42, .c ff],
 p 2 .mv [.s 43]])
 .ret)
 (.seq (.seq (.reg [
 p 45 (.bin .eql) [.s 6, .c (.int .i64 2)],
 p 44 .mv [.s 45]])
 (.cond (.s 44) .skip
 (.seq (.reg [
 p 46 (.bin .eql) [.s 6, .c (.int .i64 3)],
 p 44 .mv [.s 46]])
 (.cond (.s 44) .skip
 (.reg [
 p 47 (.bin .eql) [.s 6, .c (.int .i64 4)],
 p 44 .mv [.s 47]])))))
 (.cond (.s 44) (.seq (.reg [
 p 48 (.load (some 1)) [.s 3],
 p 49 (.faddr 1) [.s 1],
 p 50 (.load none) [.s 49],
 p 51 (.call 158) [.s 48, .s 50],
 p 52 .mv [.s 51],
  ⟨53, true, .load (some 1), [.s 3], (some (52, true)), [], []⟩,
  ⟨54, true, .faddr 2, [.s 1], (some (52, true)), [], []⟩,
  ⟨55, true, .load none, [.s 54], (some (52, true)), [], []⟩,
  ⟨56, true, .call 158, [.s 53, .s 55], (some (52, true)), [], []⟩,
 p 57 .pick [.s 52, .s 56, .c ff],
 p 58 .mv [.s 57],
  ⟨59, true, .faddr 3, [.s 1], (some (58, true)), [], []⟩,
  ⟨60, true, .load none, [.s 59], (some (58, true)), [], []⟩,
  ⟨61, true, .bin .eql, [.s 60, .c zz], (some (58, true)), [], []⟩,
 p 62 .pick [.s 58, .s 61, .c ff],
 p 2 .mv [.s 62]])
 .ret)
 (.seq (.reg [
 p 64 (.bin .eql) [.s 6, .c (.int .i64 5)],
 p 63 .mv [.s 64]])
 (.cond (.s 63) (.seq (.reg [
 p 65 (.load (some 1)) [.s 3],
 p 66 (.faddr 1) [.s 1],
 p 67 (.load none) [.s 66],
 p 68 (.call 158) [.s 65, .s 67],
 p 69 .mv [.s 68],
  ⟨70, true, .faddr 2, [.s 1], (some (69, true)), [], []⟩,
  ⟨71, true, .load none, [.s 70], (some (69, true)), [], []⟩,
  ⟨72, true, .bin .eql, [.s 71, .c zz], (some (69, true)), [], []⟩,
 p 73 .pick [.s 69, .s 72, .c ff],
 p 74 .mv [.s 73],
  ⟨75, true, .faddr 3, [.s 1], (some (74, true)), [], []⟩,
  ⟨76, true, .load none, [.s 75], (some (74, true)), [], []⟩,
  ⟨77, true, .bin .geq, [.s 76, .c (.int .i64 (-63))], (some (74, true)), [], []⟩,
 p 78 .pick [.s 74, .s 77, .c ff],
 p 79 .mv [.s 78],
  ⟨80, true, .faddr 3, [.s 1], (some (79, true)), [], []⟩,
  ⟨81, true, .load none, [.s 80], (some (79, true)), [], []⟩,
  ⟨82, true, .bin .leq, [.s 81, .c (.int .i64 63)], (some (79, true)), [], []⟩,
 p 83 .pick [.s 79, .s 82, .c ff],
 p 2 .mv [.s 83]])
 .ret)
 (.seq (.reg [
 p 85 (.bin .eql) [.s 6, .c (.int .i64 6)],
 p 84 .mv [.s 85]])
 (.cond (.s 84) (.seq (.reg [
 p 86 (.load (some 1)) [.s 3],
 p 87 (.faddr 1) [.s 1],
 p 88 (.load none) [.s 87],
 p 89 (.call 158) [.s 86, .s 88],
 p 90 .mv [.s 89],
  ⟨91, true, .faddr 2, [.s 1], (some (90, true)), [], []⟩,
  ⟨92, true, .load none, [.s 91], (some (90, true)), [], []⟩,
  ⟨93, true, .bin .eql, [.s 92, .c zz], (some (90, true)), [], []⟩,
 p 94 .pick [.s 90, .s 93, .c ff],
 p 95 .mv [.s 94],
  ⟨96, true, .faddr 3, [.s 1], (some (95, true)), [], []⟩,
  ⟨97, true, .load none, [.s 96], (some (95, true)), [], []⟩,
  ⟨98, true, .bin .geq, [.s 97, .c (.int .i64 1)], (some (95, true)), [], []⟩,
 p 99 .pick [.s 95, .s 98, .c ff],
 p 100 .mv [.s 99],
  ⟨101, true, .faddr 3, [.s 1], (some (100, true)), [], []⟩,
  ⟨102, true, .load none, [.s 101], (some (100, true)), [], []⟩,
  ⟨103, true, .bin .leq, [.s 102, .c (.int .i64 64)], (some (100, true)), [], []⟩,
 p 104 .pick [.s 100, .s 103, .c ff],
 p 2 .mv [.s 104]])
 .ret)
 (.seq (.reg [
 p 106 (.bin .eql) [.s 6, .c (.int .i64 7)],
 p 105 .mv [.s 106]])
 (.cond (.s 105) (.seq (.reg [
 p 107 (.load (some 1)) [.s 3],
 p 108 (.faddr 1) [.s 1],
 p 109 (.load none) [.s 108],
 p 110 (.call 158) [.s 107, .s 109],
 p 111 .mv [.s 110],
  ⟨112, true, .faddr 2, [.s 1], (some (111, true)), [], []⟩,
  ⟨113, true, .load none, [.s 112], (some (111, true)), [], []⟩,
  ⟨114, true, .bin .eql, [.s 113, .c zz], (some (111, true)), [], []⟩,
 p 115 .pick [.s 111, .s 114, .c ff],
 p 116 .mv [.s 115],
  ⟨117, true, .faddr 3, [.s 1], (some (116, true)), [], []⟩,
  ⟨118, true, .load none, [.s 117], (some (116, true)), [], []⟩,
  ⟨119, true, .bin .geq, [.s 118, .c (.int .i64 1)], (some (116, true)), [], []⟩,
 p 120 .pick [.s 116, .s 119, .c ff],
 p 121 .mv [.s 120],
  ⟨122, true, .faddr 3, [.s 1], (some (121, true)), [], []⟩,
  ⟨123, true, .load none, [.s 122], (some (121, true)), [], []⟩,
  ⟨124, true, .bin .leq, [.s 123, .c (.int .i64 24)], (some (121, true)), [], []⟩,
 p 125 .pick [.s 121, .s 124, .c ff],
 p 2 .mv [.s 125]])
 .ret)
 (.seq (.reg [
 p 127 (.bin .eql) [.s 6, .c (.int .i64 8)],
 p 126 .mv [.s 127]])
 (.cond (.s 126) (.seq (.reg [
 p 128 (.faddr 1) [.s 1],
 p 129 (.load none) [.s 128],
 p 130 (.bin .eql) [.s 129, .c zz],
 p 131 .mv [.s 130],
  ⟨132, true, .faddr 2, [.s 1], (some (131, true)), [], []⟩,
  ⟨133, true, .load none, [.s 132], (some (131, true)), [], []⟩,
  ⟨134, true, .bin .geq, [.s 133, .c (.int .i64 1)], (some (131, true)), [], []⟩,
 p 135 .pick [.s 131, .s 134, .c ff],
 p 136 .mv [.s 135],
  ⟨137, true, .faddr 2, [.s 1], (some (136, true)), [], []⟩,
  ⟨138, true, .load none, [.s 137], (some (136, true)), [], []⟩,
  ⟨139, true, .bin .leq, [.s 138, .c (.int .i64 24)], (some (136, true)), [], []⟩,
 p 140 .pick [.s 136, .s 139, .c ff],
 p 141 .mv [.s 140],
  ⟨142, true, .faddr 3, [.s 1], (some (141, true)), [], []⟩,
  ⟨143, true, .load none, [.s 142], (some (141, true)), [], []⟩,
  ⟨144, true, .bin .geq, [.s 143, .c (.int .i64 1)], (some (141, true)), [], []⟩,
 p 145 .pick [.s 141, .s 144, .c ff],
 p 146 .mv [.s 145],
  ⟨147, true, .faddr 3, [.s 1], (some (146, true)), [], []⟩,
  ⟨148, true, .load none, [.s 147], (some (146, true)), [], []⟩,
  ⟨149, true, .bin .leq, [.s 148, .c (.int .i64 20)], (some (146, true)), [], []⟩,
 p 150 .pick [.s 146, .s 149, .c ff],
 p 2 .mv [.s 150]])
 .ret)
 (.seq (.seq (.reg [
 p 152 (.bin .eql) [.s 6, .c (.int .i64 9)],
 p 151 .mv [.s 152]])
 (.cond (.s 151) .skip
 (.reg [
 p 153 (.bin .eql) [.s 6, .c (.int .i64 10)],
 p 151 .mv [.s 153]])))
 (.cond (.s 151) (.seq (.reg [
 p 154 (.faddr 1) [.s 1],
 p 155 (.load none) [.s 154],
 p 156 (.bin .geq) [.s 155, .c zz],
 p 157 .mv [.s 156],
  ⟨158, true, .faddr 1, [.s 1], (some (157, true)), [], []⟩,
  ⟨159, true, .load none, [.s 158], (some (157, true)), [], []⟩,
  ⟨160, true, .bin .lss, [.s 159, .c (.int .i64 4)], (some (157, true)), [], []⟩,
 p 161 .pick [.s 157, .s 160, .c ff],
 p 162 .mv [.s 161],
  ⟨163, true, .faddr 2, [.s 1], (some (162, true)), [], []⟩,
  ⟨164, true, .load none, [.s 163], (some (162, true)), [], []⟩,
  ⟨165, true, .bin .eql, [.s 164, .c zz], (some (162, true)), [], []⟩,
 p 166 .pick [.s 162, .s 165, .c ff],
 p 167 .mv [.s 166],
  ⟨168, true, .faddr 3, [.s 1], (some (167, true)), [], []⟩,
  ⟨169, true, .load none, [.s 168], (some (167, true)), [], []⟩,
  ⟨170, true, .bin .eql, [.s 169, .c zz], (some (167, true)), [], []⟩,
 p 171 .pick [.s 167, .s 170, .c ff],
 p 2 .mv [.s 171]])
 .ret)
 .skip))))))))))))))))))
 (.seq (.reg [
 p 2 .mv [.c ff]])
 .ret))))
def F114 : AFun where
  n := 52
  res := [.tmp 4]
  code := (.seq (.reg [
 p 2 (.box 11) [.s 0],
 p 3 (.box 11) [.s 1],
 p 4 .mv [.c ff]])
 (.seq (.seq (.reg [
 p 6 (.faddr 0) [.s 2],
 p 7 (.load none) [.s 6],
 p 8 (.faddr 0) [.s 3],
 p 9 (.load none) [.s 8],
 p 10 (.bin .neq) [.s 7, .s 9],
 p 11 .mv [.s 10],
  ⟨12, true, .faddr 1, [.s 2], (some (11, false)), [], []⟩,
  ⟨13, true, .load (some 8), [.s 12], (some (11, false)), [], []⟩,
  ⟨14, true, .faddr 1, [.s 3], (some (11, false)), [], []⟩,
  ⟨15, true, .load (some 8), [.s 14], (some (11, false)), [], []⟩,
  ⟨16, true, .eqv true [some .i64, some .i64, some .i64, some .i64, some .i64, some .i64, some .i64, some .i64] true, [.s 13, .s 15], (some (11, false)), [], []⟩,
 p 17 .pick [.s 11, .c (.bool true), .s 16],
 p 18 .mv [.s 17],
  ⟨19, true, .faddr 10, [.s 2], (some (18, false)), [], []⟩,
  ⟨20, true, .load none, [.s 19], (some (18, false)), [], []⟩,
  ⟨21, true, .faddr 10, [.s 3], (some (18, false)), [], []⟩,
  ⟨22, true, .load none, [.s 21], (some (18, false)), [], []⟩,
  ⟨23, true, .eqv false [none] true, [.s 20, .s 22], (some (18, false)), [], []⟩,
 p 24 .pick [.s 18, .c (.bool true), .s 23],
 p 25 .mv [.s 24],
  ⟨26, true, .faddr 9, [.s 2], (some (25, false)), [], []⟩,
  ⟨27, true, .load none, [.s 26], (some (25, false)), [], []⟩,
  ⟨28, true, .len, [.s 27], (some (25, false)), [], []⟩,
  ⟨29, true, .faddr 9, [.s 3], (some (25, false)), [], []⟩,
  ⟨30, true, .load none, [.s 29], (some (25, false)), [], []⟩,
  ⟨31, true, .len, [.s 30], (some (25, false)), [], []⟩,
  ⟨32, true, .bin .neq, [.s 28, .s 31], (some (25, false)), [], []⟩,
 p 33 .pick [.s 25, .c (.bool true), .s 32]])
 (.cond (.s 33) (.seq (.reg [
 p 4 .mv [.c ff]])
 .ret)
 .skip))
 (.seq (.seq (.reg [
 p 5 .mv [.c zz]])
 (.block 0 (.loop (.seq (.seq (.reg [
 p 34 .mv [.s 5],
 p 35 (.faddr 9) [.s 2],
 p 36 (.load none) [.s 35],
 p 37 .len [.s 36],
 p 38 (.bin .lss) [.s 34, .s 37]])
 (.cond (.s 38) .skip
 (.exit 0)))
 (.seq (.block 1 (.seq (.drw [
 p 41 (.faddr 9) [.s 2],
  ⟨42, true, .load none, [.s 41], none, [2], []⟩,
 p 43 .mv [.s 5],
 p 44 (.iaddr 3) [.s 42, .s 43],
 p 45 (.load (some 3)) [.s 44],
 p 46 (.faddr 9) [.s 3],
  ⟨47, true, .load none, [.s 46], none, [3], []⟩,
 p 48 .mv [.s 5],
 p 49 (.iaddr 3) [.s 47, .s 48],
 p 50 (.load (some 3)) [.s 49],
 p 51 (.eqv true [some .i64, some .i64, some .i64] true) [.s 45, .s 50]])
 (.cond (.s 51) (.seq (.reg [
 p 4 .mv [.c ff]])
 .ret)
 .skip)))
 (.reg [
 p 39 .mv [.s 5],
 p 40 (.bin .add) [.s 39, .c (.int .i64 1)],
 p 5 .mv [.s 40]]))))))
 (.seq (.reg [
 p 4 .mv [.c (.bool true)]])
 .ret))))
def F120 : AFun where
  n := 45
  res := [.cell 2 (some 4)]
  code := (.seq (.reg [
 p 2 (.zero [zz, zz, zz, zz]) []])
 (.seq (.reg [
 p 5 .mv [.s 0],
 p 6 (.call 18) [.s 5, .c (.int .i64 3)],
 p 7 .mv [.s 0],
 p 8 (.call 18) [.s 7, .c (.int .i64 3)],
 p 3 .mv [.s 6],
 p 4 .mv [.s 8]])
 (.seq (.seq (.reg [
 p 9 .mv [.s 0],
 p 10 (.call 18) [.s 9, .c (.int .i64 6)]])
 (.block 0 (.seq (.reg [
 p 12 (.bin .eql) [.s 10, .c zz],
 p 11 .mv [.s 12]])
 (.cond (.s 11) (.seq (.reg [
 p 13 .mv [.s 3],
 p 14 .mv [.s 0],
 p 15 (.call 18) [.s 14, .c (.int .i64 9)],
 p 16 (.bin .sub) [.s 15, .c (.int .i64 4)],
 p 17 (.build [zz, zz, zz, zz] [(0, 1), (1, 1), (3, 1)]) [.c (.int .i64 1), .s 13, .s 16],
  ⟨500, false, .store 4, [.s 2, .s 17], none, [], []⟩])
 .ret)
 (.seq (.reg [
 p 19 (.bin .eql) [.s 10, .c (.int .i64 1)],
 p 18 .mv [.s 19]])
 (.cond (.s 18) (.seq (.reg [
 p 20 .mv [.s 3],
 p 21 .mv [.s 4],
 p 22 (.build [zz, zz, zz, zz] [(0, 1), (1, 1), (2, 1)]) [.c (.int .i64 2), .s 20, .s 21],
  ⟨501, false, .store 4, [.s 2, .s 22], none, [], []⟩])
 .ret)
 (.seq (.reg [
 p 24 (.bin .eql) [.s 10, .c (.int .i64 2)],
 p 23 .mv [.s 24]])
 (.cond (.s 23) (.seq (.reg [
 p 25 .mv [.s 3],
 p 26 .mv [.s 4],
 p 27 (.build [zz, zz, zz, zz] [(0, 1), (1, 1), (2, 1)]) [.c (.int .i64 3), .s 25, .s 26],
  ⟨502, false, .store 4, [.s 2, .s 27], none, [], []⟩])
 .ret)
 (.seq (.reg [
 p 29 (.bin .eql) [.s 10, .c (.int .i64 3)],
 p 28 .mv [.s 29]])
 (.cond (.s 28) (.seq (.reg [
 p 30 .mv [.s 3],
 p 31 .mv [.s 4],
 p 32 (.build [zz, zz, zz, zz] [(0, 1), (1, 1), (2, 1)]) [.c (.int .i64 4), .s 30, .s 31],
  ⟨503, false, .store 4, [.s 2, .s 32], none, [], []⟩])
 .ret)
 (.seq (.reg [
 p 34 (.bin .eql) [.s 10, .c (.int .i64 4)],
 p 33 .mv [.s 34]])
 (.cond (.s 33) (.seq (.reg [
 p 35 .mv [.s 3],
 p 36 .mv [.s 0],
 p 37 (.call 18) [.s 36, .c (.int .i64 7)],
 p 38 (.bin .sub) [.s 37, .c (.int .i64 3)],
 p 39 (.build [zz, zz, zz, zz] [(0, 1), (1, 1), (3, 1)]) [.c (.int .i64 5), .s 35, .s 38],
  ⟨504, false, .store 4, [.s 2, .s 39], none, [], []⟩])
 .ret)
 .skip))))))))))))
 (.seq (.reg [
 p 40 .mv [.s 3],
 p 41 .mv [.s 0],
 p 42 (.call 18) [.s 41, .c (.int .i64 64)],
 p 43 (.bin .add) [.c (.int .i64 1), .s 42],
 p 44 (.build [zz, zz, zz, zz] [(0, 1), (1, 1), (3, 1)]) [.c (.int .i64 6), .s 40, .s 43],
  ⟨505, false, .store 4, [.s 2, .s 44], none, [], []⟩])
 .ret))))
def F136 : AFun := cloneOf 3 24 [zz, zz, zz]
def F137 : AFun := cloneOf 1 8 [zz]
def F144 : AFun where
  n := 13
  res := [.cell 4 (some 28)]
  code := (.seq (.reg [
 p 2 (.box 28) [.s 0],
 p 3 (.box 1) [.s 1],
 p 4 (.zero [zz, zz, zz, zz, zz, zz, zz, zz, zz, zz, zz, zz, zz, et, ff, zz, zz, zz, zz, zz, zz, zz, zz, zz, et, ff, et, ff]) []])
 (.seq (.reg [
 p 5 (.load (some 28)) [.s 2],
 p 6 (.call 218) [.s 5],
  ⟨500, false, .store 28, [.s 2, .s 6], none, [], []⟩])
 (.seq (.reg [
 p 7 (.faddr 26) [.s 2],
 p 8 (.load none) [.s 7],
 p 9 (.mkfn 220 0) [.s 3],
 p 10 (.call 219) [.s 8, .s 9],
 p 11 (.faddr 26) [.s 2],
  ⟨501, false, .store 1, [.s 11, .s 10], none, [], []⟩])
 (.seq (.reg [
 p 12 (.load (some 28)) [.s 2],
  ⟨502, false, .store 28, [.s 4, .s 12], none, [], []⟩])
 .ret))))
def F155 : AFun where
  n := 7
  res := [.cell 2 (some 11)]
  code := (.seq (.reg [
 p 2 (.zero [zz, zz, zz, zz, zz, zz, zz, zz, zz, et, ff]) []])
 (.seq (.reg [
 p 3 .mv [.s 0],
 p 4 (.faddr 1) [.s 2],
 p 5 (.iaddrA 8 1) [.s 4, .c zz],
  ⟨500, false, .store 1, [.s 5, .s 3], none, [], []⟩])
 (.seq (.reg [
 p 6 (.load (some 11)) [.s 2],
  ⟨501, false, .store 11, [.s 2, .s 6], none, [], []⟩])
 .ret)))
def F158 : AFun where
  n := 13
  res := [.tmp 4]
  code := (.seq (.reg [
 p 2 (.box 1) [.s 0],
 p 4 .mv [.c ff]])
 (.seq (.reg [
 p 5 .mv [.s 1],
 p 6 (.bin .geq) [.s 5, .c zz],
 p 7 .mv [.s 6],
  ⟨8, true, .mv, [.s 1], (some (7, true)), [], []⟩,
  ⟨9, true, .faddr 0, [.s 2], (some (7, true)), [], []⟩,
  ⟨10, true, .load none, [.s 9], (some (7, true)), [], []⟩,
  ⟨11, true, .bin .lss, [.s 8, .s 10], (some (7, true)), [], []⟩,
 p 12 .pick [.s 7, .s 11, .c ff],
 p 4 .mv [.s 12]])
 .ret))
def F170 : AFun where
  n := 16
  res := [.cell 6 (some 28)]
  code := (.seq (.reg [
 p 6 (.zero [zz, zz, zz, zz, zz, zz, zz, zz, zz, zz, zz, zz, zz, et, ff, zz, zz, zz, zz, zz, zz, zz, zz, zz, et, ff, et, ff]) []])
 (.seq (.reg [
 p 8 .mv [.s 2],
 p 9 (.call 239) [.s 8],
 p 7 (.zero [zz, zz, zz, zz, zz, zz, zz, zz, zz, et, ff]) [],
  ⟨500, false, .store 11, [.s 7, .s 9], none, [], []⟩])
 (.seq (.reg [
 p 10 .mv [.s 0],
 p 11 .mv [.s 1],
 p 12 .mv [.s 2],
 p 13 (.load (some 11)) [.s 7],
 p 14 (.load (some 11)) [.s 7],
 p 15 (.build [zz, zz, zz, zz, zz, zz, zz, zz, zz, zz, zz, zz, zz, et, ff, zz, zz, zz, zz, zz, zz, zz, zz, zz, et, ff, et, ff] [(0, 1), (1, 1), (2, 1), (4, 11), (15, 11)]) [.s 10, .s 11, .s 12, .s 13, .s 14],
  ⟨501, false, .store 28, [.s 6, .s 15], none, [], []⟩])
 .ret)))
def F185 : AFun where
  n := 82
  res := [.cell 4 (some 28), .cell 5 (some 4), .tmp 6]
  code := (.seq (.reg [
 p 2 (.box 6) [.s 0],
 p 3 (.box 28) [.s 1],
 p 4 (.zero [zz, zz, zz, zz, zz, zz, zz, zz, zz, zz, zz, zz, zz, et, ff, zz, zz, zz, zz, zz, zz, zz, zz, zz, et, ff, et, ff]) [],
 p 5 (.zero [zz, zz, zz, zz]) [],
 p 6 .mv [.c ff]])
 (.seq (.drw [
  ⟨13, true, .load (some 6), [.s 2], none, [2], []⟩,
  ⟨14, true, .load (some 28), [.s 3], none, [3], []⟩,
 p 15 (.call 245) [.s 13, .s 14],
 p 16 (.faddr 4) [.s 3],
  ⟨17, true, .load (some 11), [.s 16], none, [3], []⟩,
  ⟨18, true, .call 244, [.s 15, .s 17], none, [15], [15]⟩,
 p 12 .mv [.s 18],
 p 19 (.extract 0) [.s 12],
 p 20 (.extract 1) [.s 12],
 p 21 (.extract 2) [.s 12],
 p 7 (.zero [zz, zz, zz, zz, zz, zz, zz, zz, zz, et, ff]) [],
 p 8 (.zero [zz, zz, zz, zz]) [],
  ⟨500, false, .store 11, [.s 7, .s 19], none, [7, 18], [7]⟩,
  ⟨501, false, .store 4, [.s 8, .s 20], none, [8], [8]⟩,
 p 9 .mv [.s 21]])
 (.seq (.seq (.reg [
 p 22 .mv [.s 9],
 p 23 (.un .not) [.s 22]])
 (.cond (.s 23) (.seq (.reg [
 p 24 (.load (some 28)) [.s 3],
 p 25 (.build [zz, zz, zz, zz] []) [],
  ⟨502, false, .store 28, [.s 4, .s 24], none, [], []⟩,
  ⟨503, false, .store 4, [.s 5, .s 25], none, [], []⟩,
 p 6 .mv [.c ff]])
 .ret)
 .skip))
 (.seq (.reg [
 p 26 (.load (some 28)) [.s 3],
 p 10 (.zero [zz, zz, zz, zz, zz, zz, zz, zz, zz, zz, zz, zz, zz, et, ff, zz, zz, zz, zz, zz, zz, zz, zz, zz, et, ff, et, ff]) [],
  ⟨504, false, .store 28, [.s 10, .s 26], none, [], []⟩])
 (.seq (.reg [
 p 27 (.load (some 11)) [.s 7],
 p 28 (.faddr 4) [.s 10],
  ⟨505, false, .store 11, [.s 28, .s 27], none, [], []⟩])
 (.seq (.reg [
 p 29 (.buildSl 1 [zz] 0 []) [],
 p 30 (.faddr 26) [.s 3],
 p 31 (.load none) [.s 30],
 p 32 (.app 1 8 [zz]) [.s 29, .s 31],
 p 33 (.faddr 26) [.s 10],
  ⟨506, false, .store 1, [.s 33, .s 32], none, [], []⟩])
 (.seq (.seq (.reg [
 p 34 (.faddr 0) [.s 8],
 p 35 (.load none) [.s 34]])
 (.block 0 (.seq (.reg [
 p 37 (.bin .eql) [.s 35, .c (.int .i64 11)],
 p 36 .mv [.s 37]])
 (.cond (.s 36) (.reg [
 p 38 (.load (some 11)) [.s 7],
 p 39 (.faddr 15) [.s 10],
  ⟨507, false, .store 11, [.s 39, .s 38], none, [], []⟩])
 (.seq (.reg [
 p 41 (.bin .eql) [.s 35, .c (.int .i64 9)],
 p 40 .mv [.s 41]])
 (.cond (.s 40) (.reg [
 p 42 (.faddr 26) [.s 10],
 p 43 (.load none) [.s 42],
 p 44 (.faddr 1) [.s 8],
 p 45 (.load none) [.s 44],
 p 46 (.buildSl 1 [zz] 1 [0]) [.s 45],
 p 47 (.app 1 8 [zz]) [.s 43, .s 46],
 p 48 (.faddr 26) [.s 10],
  ⟨508, false, .store 1, [.s 48, .s 47], none, [], []⟩])
 (.seq (.reg [
 p 50 (.bin .eql) [.s 35, .c (.int .i64 10)],
 p 49 .mv [.s 50]])
 (.cond (.s 49) (.seq (.reg [
 p 51 (.faddr 26) [.s 10],
 p 52 (.load none) [.s 51],
 p 53 .len [.s 52],
 p 54 (.bin .sub) [.s 53, .c (.int .i64 1)],
 p 11 .mv [.s 54]])
 (.block 1 (.loop (.seq (.seq (.reg [
 p 55 .mv [.s 11],
 p 56 (.bin .geq) [.s 55, .c zz]])
 (.cond (.s 56) .skip
 (.exit 1)))
 (.seq (.block 2 (.seq (.drw [
 p 59 (.faddr 26) [.s 10],
  ⟨60, true, .load none, [.s 59], none, [10], []⟩,
 p 61 .mv [.s 11],
  ⟨62, true, .iaddr 1, [.s 60, .s 61], none, [18, 29, 32, 46, 47, 67, 72, 78], []⟩,
  ⟨63, true, .load none, [.s 62], none, [18, 29, 32, 46, 47, 67, 72, 78], []⟩,
 p 64 (.faddr 1) [.s 8],
  ⟨65, true, .load none, [.s 64], none, [8], []⟩,
 p 66 (.bin .eql) [.s 63, .s 65]])
 (.cond (.s 66) (.seq (.drw [
 p 67 (.buildSl 1 [zz] 0 []) [],
 p 68 (.faddr 26) [.s 10],
  ⟨69, true, .load none, [.s 68], none, [10], []⟩,
 p 70 .mv [.s 11],
  ⟨71, true, .slice 1 false true, [.s 69, .s 70], none, [18, 29, 32, 46, 47], []⟩,
  ⟨72, true, .app 1 8 [zz], [.s 67, .s 71], none, [67, 18, 29, 32, 46, 47, 72, 78], [67]⟩,
 p 73 (.faddr 26) [.s 10],
  ⟨74, true, .load none, [.s 73], none, [10], []⟩,
 p 75 .mv [.s 11],
 p 76 (.bin .add) [.s 75, .c (.int .i64 1)],
  ⟨77, true, .slice 1 true false, [.s 74, .s 76], none, [18, 29, 32, 46, 47], []⟩,
  ⟨78, true, .app 1 8 [zz], [.s 72, .s 77], none, [67, 18, 29, 32, 46, 47, 72, 78], [67, 18, 29, 32, 46, 47, 72, 78]⟩,
 p 79 (.faddr 26) [.s 10],
  ⟨509, false, .store 1, [.s 79, .s 78], none, [10, 67, 18, 29, 32, 46, 47, 72, 78], [10]⟩])
 (.exit 1))
 .skip)))
 (.reg [
 p 57 .mv [.s 11],
 p 58 (.bin .sub) [.s 57, .c (.int .i64 1)],
 p 11 .mv [.s 58]]))))))
 .skip))))))))
 (.seq (.drw [
  ⟨80, true, .load (some 28), [.s 10], none, [10], []⟩,
  ⟨81, true, .load (some 4), [.s 8], none, [8], []⟩,
  ⟨510, false, .store 28, [.s 4, .s 80], none, [4, 18, 29, 32, 46, 47, 67, 72, 78], [4]⟩,
  ⟨511, false, .store 4, [.s 5, .s 81], none, [5], [5]⟩,
 p 6 .mv [.c (.bool true)]])
 .ret))))))))
def F216 : AFun where
  n := 24
  res := [.tmp 4]
  code := (.seq (.reg [
 p 4 .mv [.c et]])
 (.seq (.reg [
 p 7 .mv [.s 0],
 p 8 (.call 270) [.s 7],
 p 5 .mv [.s 8]])
 (.seq (.seq (.reg [
 p 9 .mv [.s 5],
 p 10 .len [.s 9],
 p 11 .mv [.c zz]])
 (.block 0 (.loop (.seq (.reg [
 p 12 (.bin .lss) [.s 11, .s 10]])
 (.seq (.cond (.s 12) .skip
 (.exit 0))
 (.seq (.block 1 (.seq (.reg [
 p 13 .mv [.s 11],
 p 6 .mv [.s 13]])
 (.seq (.reg [
 p 14 .mv [.s 0],
 p 15 .mv [.s 6],
 p 16 .mv [.s 1],
 p 17 (.call 271) [.s 14, .s 15, .s 16]])
 (.cond (.s 17) (.reg [
 p 18 .mv [.s 5],
 p 19 .mv [.s 6],
 p 20 (.iaddr 2) [.s 18, .s 19],
 p 21 (.faddr 1) [.s 20],
  ⟨500, false, .store 1, [.s 21, .c zz], none, [], []⟩])
 .skip))))
 (.reg [
 p 22 (.bin .add) [.s 11, .c (.int .i64 1)],
 p 11 .mv [.s 22]])))))))
 (.seq (.reg [
 p 23 .mv [.s 5],
 p 4 .mv [.s 23]])
 .ret))))
def F218 : AFun where
  n := 20
  res := [.cell 2 (some 28)]
  code := (.seq (.reg [
 p 1 (.box 28) [.s 0],
 p 2 (.zero [zz, zz, zz, zz, zz, zz, zz, zz, zz, zz, zz, zz, zz, et, ff, zz, zz, zz, zz, zz, zz, zz, zz, zz, et, ff, et, ff]) []])
 (.seq (.drw [
 p 3 (.faddr 4) [.s 1],
 p 4 (.faddr 9) [.s 3],
  ⟨5, true, .load none, [.s 4], none, [1], []⟩,
  ⟨6, true, .call 136, [.s 5], none, [6, 10, 13], [6, 10, 13]⟩,
 p 7 (.faddr 15) [.s 1],
 p 8 (.faddr 9) [.s 7],
  ⟨9, true, .load none, [.s 8], none, [1], []⟩,
  ⟨10, true, .call 136, [.s 9], none, [6, 10, 13], [6, 10, 13]⟩,
 p 11 (.faddr 26) [.s 1],
  ⟨12, true, .load none, [.s 11], none, [1], []⟩,
  ⟨13, true, .call 137, [.s 12], none, [6, 10, 13], [6, 10, 13]⟩,
 p 14 (.faddr 4) [.s 1],
 p 15 (.faddr 9) [.s 14],
  ⟨500, false, .store 1, [.s 15, .s 6], none, [1, 6], [1]⟩,
 p 16 (.faddr 15) [.s 1],
 p 17 (.faddr 9) [.s 16],
  ⟨501, false, .store 1, [.s 17, .s 10], none, [1, 10], [1]⟩,
 p 18 (.faddr 26) [.s 1],
  ⟨502, false, .store 1, [.s 18, .s 13], none, [1, 13], [1]⟩])
 (.seq (.reg [
 p 19 (.load (some 28)) [.s 1],
  ⟨503, false, .store 28, [.s 2, .s 19], none, [], []⟩])
 .ret)))
def F219 : AFun where
  n := 42
  res := [.tmp 4]
  code := (.seq (.reg [
 p 4 .mv [.c et]])
 (.seq (.reg [
 p 8 .mv [.s 0],
 p 9 .mv [.s 1],
 p 10 (.call 274) [.s 8, .s 9],
 p 5 .mv [.s 10]])
 (.seq (.seq (.reg [
 p 11 .mv [.s 5],
 p 12 (.bin .eql) [.s 11, .c (.int .i64 (-1))]])
 (.cond (.s 12) (.seq (.reg [
 p 13 .mv [.s 0],
 p 4 .mv [.s 13]])
 .ret)
 .skip))
 (.seq (.seq (.reg [
 p 14 .mv [.s 5],
 p 15 (.bin .add) [.s 14, .c (.int .i64 1)],
 p 6 .mv [.s 15]])
 (.block 0 (.loop (.seq (.seq (.reg [
 p 16 .mv [.s 6],
 p 17 .mv [.s 0],
 p 18 .len [.s 17],
 p 19 (.bin .lss) [.s 16, .s 18]])
 (.cond (.s 19) .skip
 (.exit 0)))
 (.seq (.block 1 (.seq (.reg [
 p 22 .mv [.s 0],
 p 23 .mv [.s 6],
 p 24 (.iaddr 1) [.s 22, .s 23],
 p 25 (.load none) [.s 24],
 p 7 .mv [.s 25]])
 (.seq (.reg [
 p 26 .mv [.s 1],
 p 27 .mv [.s 7],
 p 28 .callv [.s 26, .s 27],
 p 29 (.un .not) [.s 28]])
 (.cond (.s 29) (.seq (.reg [
 p 30 .mv [.s 0],
 p 31 .mv [.s 5],
 p 32 .mv [.s 7],
 p 33 (.iaddr 1) [.s 30, .s 31],
  ⟨500, false, .store 1, [.s 33, .s 32], none, [], []⟩])
 (.reg [
 p 34 .mv [.s 5],
 p 35 (.bin .add) [.s 34, .c (.int .i64 1)],
 p 5 .mv [.s 35]]))
 .skip))))
 (.reg [
 p 20 .mv [.s 6],
 p 21 (.bin .add) [.s 20, .c (.int .i64 1)],
 p 6 .mv [.s 21]]))))))
 (.seq (.reg [
 p 36 .mv [.s 0],
 p 37 .mv [.s 5],
 p 38 (.slice 1 true false) [.s 36, .s 37],
  ⟨501, false, .clear [zz], [.s 38], none, [], []⟩])
 (.seq (.reg [
 p 39 .mv [.s 0],
 p 40 .mv [.s 5],
 p 41 (.slice 1 false true) [.s 39, .s 40],
 p 4 .mv [.s 41]])
 .ret))))))
def F220 : AFun where
  n := 7
  res := [.tmp 3]
  code := (.seq (.reg [
 p 3 .mv [.c ff]])
 (.seq (.reg [
 p 4 .mv [.s 0],
 p 5 (.load none) [.s 1],
 p 6 (.bin .eql) [.s 4, .s 5],
 p 3 .mv [.s 6]])
 .ret))
def F228 : AFun where
  n := 31
  res := [.cell 6 (some 28), .tmp 7, .tmp 8]
  code := (.seq (.reg [
 p 3 (.box 6) [.s 0],
 p 4 (.box 28) [.s 1],
 p 6 (.zero [zz, zz, zz, zz, zz, zz, zz, zz, zz, zz, zz, zz, zz, et, ff, zz, zz, zz, zz, zz, zz, zz, zz, zz, et, ff, et, ff]) [],
 p 7 .mv [.c et],
 p 8 .mv [.c zz]])
 (.seq (.drw [
  ⟨9, true, .load (some 6), [.s 3], none, [3], []⟩,
  ⟨10, true, .load (some 28), [.s 4], none, [4], []⟩,
 p 11 (.call 288) [.s 9, .s 10],
 p 12 .mv [.s 2],
 p 13 (.faddr 0) [.s 4],
  ⟨14, true, .load none, [.s 13], none, [4], []⟩,
 p 15 (.call 216) [.s 12, .s 14],
  ⟨500, false, .store 28, [.s 6, .s 11], none, [6, 11], [6]⟩,
 p 7 .mv [.s 15],
 p 8 .mv [.c (.int .i64 6)]])
 (.seq (.block 0 (.seq (.reg [
 p 17 (.faddr 3) [.s 4],
 p 18 (.load none) [.s 17],
 p 19 (.bin .eql) [.s 18, .c (.int .i64 2)],
 p 16 .mv [.s 19]])
 (.cond (.s 16) (.reg [
 p 20 (.load (some 28)) [.s 4],
 p 21 (.call 218) [.s 20],
  ⟨501, false, .store 28, [.s 6, .s 21], none, [], []⟩,
 p 8 .mv [.c (.int .i64 13)]])
 (.seq (.reg [
 p 23 (.faddr 3) [.s 6],
 p 24 (.load none) [.s 23],
 p 25 (.faddr 3) [.s 4],
 p 26 (.load none) [.s 25],
 p 27 (.bin .neq) [.s 24, .s 26],
 p 22 .mv [.s 27]])
 (.cond (.s 22) (.reg [
 p 8 .mv [.c (.int .i64 7)]])
 .skip)))))
 (.seq (.reg [
 p 28 (.load (some 28)) [.s 6],
 p 29 .mv [.s 7],
 p 30 .mv [.s 8],
  ⟨502, false, .store 28, [.s 6, .s 28], none, [], []⟩,
 p 7 .mv [.s 29],
 p 8 .mv [.s 30]])
 .ret))))
def F239 : AFun where
  n := 9
  res := [.cell 2 (some 11)]
  code := (.seq (.reg [
 p 2 (.zero [zz, zz, zz, zz, zz, zz, zz, zz, zz, et, ff]) []])
 (.seq (.reg [
 p 4 (.build [zz, zz, zz, zz, zz, zz, zz, zz, zz, et, ff] []) [],
 p 3 (.zero [zz, zz, zz, zz, zz, zz, zz, zz, zz, et, ff]) [],
  ⟨500, false, .store 11, [.s 3, .s 4], none, [], []⟩])
 (.seq (.reg [
 p 5 .mv [.s 0],
 p 6 (.faddr 1) [.s 3],
 p 7 (.iaddrA 8 1) [.s 6, .c zz],
  ⟨501, false, .store 1, [.s 7, .s 5], none, [], []⟩])
 (.seq (.reg [
 p 8 (.load (some 11)) [.s 3],
  ⟨502, false, .store 11, [.s 2, .s 8], none, [], []⟩])
 .ret))))
def F244 : AFun where
  n := 225
  res := [.cell 4 (some 11), .cell 5 (some 4), .tmp 6]
  code := (.seq (.reg [
 p 3 (.box 11) [.s 1],
 p 4 (.zero [zz, zz, zz, zz, zz, zz, zz, zz, zz, et, ff]) [],
 p 5 (.zero [zz, zz, zz, zz]) [],
 p 6 .mv [.c ff]])
 (.seq (.reg [
 p 10 (.buildSl 3 [zz, zz, zz] 0 []) [],
 p 11 (.faddr 9) [.s 3],
 p 12 (.load none) [.s 11],
 p 13 (.app 3 24 [zz, zz, zz]) [.s 10, .s 12],
 p 14 (.faddr 9) [.s 3],
  ⟨500, false, .store 1, [.s 14, .s 13], none, [], []⟩])
 (.seq (.seq (.reg [
 p 15 (.faddr 10) [.s 3],
 p 16 (.load none) [.s 15],
 p 17 .mv [.s 16],
  ⟨18, true, .faddr 0, [.s 3], (some (17, false)), [], []⟩,
  ⟨19, true, .load none, [.s 18], (some (17, false)), [], []⟩,
  ⟨20, true, .bin .lss, [.s 19, .c zz], (some (17, false)), [], []⟩,
 p 21 .pick [.s 17, .c (.bool true), .s 20],
 p 22 .mv [.s 21],
  ⟨23, true, .faddr 0, [.s 3], (some (22, false)), [], []⟩,
  ⟨24, true, .load none, [.s 23], (some (22, false)), [], []⟩,
  ⟨25, true, .mv, [.s 0], (some (22, false)), [], []⟩,
  ⟨26, true, .len, [.s 25], (some (22, false)), [], []⟩,
  ⟨27, true, .bin .geq, [.s 24, .s 26], (some (22, false)), [], []⟩,
 p 28 .pick [.s 22, .c (.bool true), .s 27],
 p 29 .mv [.s 28],
  ⟨30, true, .mv, [.s 0], (some (29, false)), [], []⟩,
  ⟨31, true, .faddr 0, [.s 3], (some (29, false)), [], []⟩,
  ⟨32, true, .load none, [.s 31], (some (29, false)), [], []⟩,
  ⟨33, true, .iaddr 4, [.s 30, .s 32], (some (29, false)), [], []⟩,
  ⟨34, true, .load (some 4), [.s 33], (some (29, false)), [], []⟩,
  ⟨35, true, .call 94, [.s 34], (some (29, false)), [], []⟩,
  ⟨36, true, .un .not, [.s 35], (some (29, false)), [], []⟩,
 p 37 .pick [.s 29, .c (.bool true), .s 36]])
 (.cond (.s 37) (.seq (.reg [
 p 38 (.load (some 11)) [.s 3],
 p 39 (.build [zz, zz, zz, zz] []) [],
  ⟨501, false, .store 11, [.s 4, .s 38], none, [], []⟩,
  ⟨502, false, .store 4, [.s 5, .s 39], none, [], []⟩,
 p 6 .mv [.c ff]])
 .ret)
 .skip))
 (.seq (.reg [
 p 40 .mv [.s 0],
 p 41 (.faddr 0) [.s 3],
 p 42 (.load none) [.s 41],
 p 43 (.iaddr 4) [.s 40, .s 42],
 p 44 (.load (some 4)) [.s 43],
 p 7 (.zero [zz, zz, zz, zz]) [],
  ⟨503, false, .store 4, [.s 7, .s 44], none, [], []⟩])
 (.seq (.reg [
 p 45 (.faddr 0) [.s 3],
 p 46 (.load none) [.s 45],
 p 47 (.bin .add) [.s 46, .c (.int .i64 1)],
 p 8 .mv [.s 47]])
 (.seq (.seq (.reg [
 p 48 (.faddr 0) [.s 7],
 p 49 (.load none) [.s 48]])
 (.block 0 (.seq (.reg [
 p 51 (.bin .eql) [.s 49, .c zz],
 p 50 .mv [.s 51]])
 (.cond (.s 50) (.seq (.reg [
 p 52 (.faddr 10) [.s 3],
  ⟨504, false, .store 1, [.s 52, .c (.bool true)], none, [], []⟩])
 (.reg [
 p 53 (.faddr 0) [.s 3],
 p 54 (.load none) [.s 53],
 p 8 .mv [.s 54]]))
 (.seq (.reg [
 p 56 (.bin .eql) [.s 49, .c (.int .i64 1)],
 p 55 .mv [.s 56]])
 (.cond (.s 55) (.reg [
 p 57 (.faddr 1) [.s 7],
 p 58 (.load none) [.s 57],
 p 59 (.faddr 3) [.s 7],
 p 60 (.load none) [.s 59],
 p 61 (.faddr 1) [.s 3],
 p 62 (.iaddrA 8 1) [.s 61, .s 58],
  ⟨505, false, .store 1, [.s 62, .s 60], none, [], []⟩])
 (.seq (.reg [
 p 64 (.bin .eql) [.s 49, .c (.int .i64 2)],
 p 63 .mv [.s 64]])
 (.cond (.s 63) (.drw [
 p 65 (.faddr 1) [.s 7],
  ⟨66, true, .load none, [.s 65], none, [7], []⟩,
 p 67 (.faddr 1) [.s 7],
  ⟨68, true, .load none, [.s 67], none, [7], []⟩,
 p 69 (.faddr 1) [.s 3],
 p 70 (.iaddrA 8 1) [.s 69, .s 68],
  ⟨71, true, .load none, [.s 70], none, [3], []⟩,
 p 72 (.faddr 2) [.s 7],
  ⟨73, true, .load none, [.s 72], none, [7], []⟩,
 p 74 (.faddr 1) [.s 3],
 p 75 (.iaddrA 8 1) [.s 74, .s 73],
  ⟨76, true, .load none, [.s 75], none, [3], []⟩,
 p 77 (.bin .add) [.s 71, .s 76],
 p 78 (.faddr 1) [.s 3],
 p 79 (.iaddrA 8 1) [.s 78, .s 66],
  ⟨506, false, .store 1, [.s 79, .s 77], none, [3], [3]⟩])
 (.seq (.reg [
 p 81 (.bin .eql) [.s 49, .c (.int .i64 3)],
 p 80 .mv [.s 81]])
 (.cond (.s 80) (.drw [
 p 82 (.faddr 1) [.s 7],
  ⟨83, true, .load none, [.s 82], none, [7], []⟩,
 p 84 (.faddr 1) [.s 7],
  ⟨85, true, .load none, [.s 84], none, [7], []⟩,
 p 86 (.faddr 1) [.s 3],
 p 87 (.iaddrA 8 1) [.s 86, .s 85],
  ⟨88, true, .load none, [.s 87], none, [3], []⟩,
 p 89 (.faddr 2) [.s 7],
  ⟨90, true, .load none, [.s 89], none, [7], []⟩,
 p 91 (.faddr 1) [.s 3],
 p 92 (.iaddrA 8 1) [.s 91, .s 90],
  ⟨93, true, .load none, [.s 92], none, [3], []⟩,
 p 94 (.bin .sub) [.s 88, .s 93],
 p 95 (.faddr 1) [.s 3],
 p 96 (.iaddrA 8 1) [.s 95, .s 83],
  ⟨507, false, .store 1, [.s 96, .s 94], none, [3], [3]⟩])
 (.seq (.reg [
 p 98 (.bin .eql) [.s 49, .c (.int .i64 4)],
 p 97 .mv [.s 98]])
 (.cond (.s 97) (.drw [
 p 99 (.faddr 1) [.s 7],
  ⟨100, true, .load none, [.s 99], none, [7], []⟩,
 p 101 (.faddr 1) [.s 7],
  ⟨102, true, .load none, [.s 101], none, [7], []⟩,
 p 103 (.faddr 1) [.s 3],
 p 104 (.iaddrA 8 1) [.s 103, .s 102],
  ⟨105, true, .load none, [.s 104], none, [3], []⟩,
 p 106 (.faddr 2) [.s 7],
  ⟨107, true, .load none, [.s 106], none, [7], []⟩,
 p 108 (.faddr 1) [.s 3],
 p 109 (.iaddrA 8 1) [.s 108, .s 107],
  ⟨110, true, .load none, [.s 109], none, [3], []⟩,
 p 111 (.bin .mul) [.s 105, .s 110],
 p 112 (.faddr 1) [.s 3],
 p 113 (.iaddrA 8 1) [.s 112, .s 100],
  ⟨508, false, .store 1, [.s 113, .s 111], none, [3], [3]⟩])
 (.seq (.reg [
 p 115 (.bin .eql) [.s 49, .c (.int .i64 5)],
 p 114 .mv [.s 115]])
 (.cond (.s 114) (.drw [
 p 116 (.faddr 1) [.s 7],
  ⟨117, true, .load none, [.s 116], none, [7], []⟩,
 p 118 (.faddr 1) [.s 7],
  ⟨119, true, .load none, [.s 118], none, [7], []⟩,
 p 120 (.faddr 1) [.s 3],
 p 121 (.iaddrA 8 1) [.s 120, .s 119],
  ⟨122, true, .load none, [.s 121], none, [3], []⟩,
 p 123 (.faddr 3) [.s 7],
  ⟨124, true, .load none, [.s 123], none, [7], []⟩,
 p 125 (.call 298) [.s 122, .s 124],
 p 126 (.faddr 1) [.s 3],
 p 127 (.iaddrA 8 1) [.s 126, .s 117],
  ⟨509, false, .store 1, [.s 127, .s 125], none, [3], [3]⟩])
 (.seq (.reg [
 p 129 (.bin .eql) [.s 49, .c (.int .i64 6)],
 p 128 .mv [.s 129]])
 (.cond (.s 128) (.drw [
 p 130 (.faddr 1) [.s 7],
  ⟨131, true, .load none, [.s 130], none, [7], []⟩,
 p 132 (.faddr 1) [.s 7],
  ⟨133, true, .load none, [.s 132], none, [7], []⟩,
 p 134 (.faddr 1) [.s 3],
 p 135 (.iaddrA 8 1) [.s 134, .s 133],
  ⟨136, true, .load none, [.s 135], none, [3], []⟩,
 p 137 (.faddr 3) [.s 7],
  ⟨138, true, .load none, [.s 137], none, [7], []⟩,
 p 139 (.call 299) [.s 136, .s 138],
 p 140 (.faddr 1) [.s 3],
 p 141 (.iaddrA 8 1) [.s 140, .s 131],
  ⟨510, false, .store 1, [.s 141, .s 139], none, [3], [3]⟩])
 (.seq (.reg [
 p 143 (.bin .eql) [.s 49, .c (.int .i64 7)],
 p 142 .mv [.s 143]])
 (.cond (.s 142) (.seq (.reg [
 p 144 (.faddr 1) [.s 7],
 p 145 (.load none) [.s 144],
 p 146 (.faddr 1) [.s 3],
 p 147 (.iaddrA 8 1) [.s 146, .s 145],
 p 148 (.load none) [.s 147],
 p 149 (.bin .eql) [.s 148, .c zz]])
 (.cond (.s 149) (.reg [
 p 150 .mv [.s 8],
 p 151 (.faddr 3) [.s 7],
 p 152 (.load none) [.s 151],
 p 153 (.bin .add) [.s 150, .s 152],
 p 8 .mv [.s 153]])
 .skip))
 (.seq (.reg [
 p 155 (.bin .eql) [.s 49, .c (.int .i64 8)],
 p 154 .mv [.s 155]])
 (.cond (.s 154) (.reg [
 p 156 (.faddr 9) [.s 3],
 p 157 (.load none) [.s 156],
 p 158 .mv [.s 8],
 p 159 (.faddr 0) [.s 3],
 p 160 (.load none) [.s 159],
 p 161 (.faddr 2) [.s 7],
 p 162 (.load none) [.s 161],
 p 163 (.bin .add) [.s 160, .s 162],
 p 164 (.faddr 3) [.s 7],
 p 165 (.load none) [.s 164],
 p 166 (.bin .sub) [.s 165, .c (.int .i64 1)],
 p 167 (.build [zz, zz, zz] [(0, 1), (1, 1), (2, 1)]) [.s 158, .s 163, .s 166],
 p 168 (.buildSl 3 [zz, zz, zz] 1 [0]) [.s 167],
 p 169 (.app 3 24 [zz, zz, zz]) [.s 157, .s 168],
 p 170 (.faddr 9) [.s 3],
  ⟨511, false, .store 1, [.s 170, .s 169], none, [], []⟩])
 .skip))))))))))))))))))))
 (.seq (.reg [
 p 171 .mv [.s 8],
 p 172 (.faddr 0) [.s 3],
  ⟨512, false, .store 1, [.s 172, .s 171], none, [], []⟩])
 (.seq (.block 1 (.loop (.seq (.seq (.drw [
 p 173 (.faddr 9) [.s 3],
  ⟨174, true, .load none, [.s 173], none, [3], []⟩,
 p 175 .len [.s 174],
 p 176 (.bin .gtr) [.s 175, .c zz],
 p 177 .mv [.s 176],
  ⟨178, true, .faddr 9, [.s 3], (some (177, true)), [], []⟩,
  ⟨179, true, .load none, [.s 178], (some (177, true)), [3], []⟩,
  ⟨180, true, .faddr 9, [.s 3], (some (177, true)), [], []⟩,
  ⟨181, true, .load none, [.s 180], (some (177, true)), [3], []⟩,
  ⟨182, true, .len, [.s 181], (some (177, true)), [], []⟩,
  ⟨183, true, .bin .sub, [.s 182, .c (.int .i64 1)], (some (177, true)), [], []⟩,
  ⟨184, true, .iaddr 3, [.s 179, .s 183], (some (177, true)), [10, 13, 168, 169, 217, 218], []⟩,
  ⟨185, true, .faddr 1, [.s 184], (some (177, true)), [], []⟩,
  ⟨186, true, .load none, [.s 185], (some (177, true)), [10, 13, 168, 169, 217, 218], []⟩,
  ⟨187, true, .faddr 0, [.s 3], (some (177, true)), [], []⟩,
  ⟨188, true, .load none, [.s 187], (some (177, true)), [3], []⟩,
  ⟨189, true, .bin .lss, [.s 186, .s 188], (some (177, true)), [], []⟩,
 p 190 .pick [.s 177, .s 189, .c ff]])
 (.cond (.s 190) .skip
 (.exit 1)))
 (.block 2 (.seq (.reg [
 p 191 (.faddr 9) [.s 3],
 p 192 (.load none) [.s 191],
 p 193 (.faddr 9) [.s 3],
 p 194 (.load none) [.s 193],
 p 195 .len [.s 194],
 p 196 (.bin .sub) [.s 195, .c (.int .i64 1)],
 p 197 (.iaddr 3) [.s 192, .s 196],
 p 198 (.load (some 3)) [.s 197],
 p 9 (.zero [zz, zz, zz]) [],
  ⟨513, false, .store 3, [.s 9, .s 198], none, [], []⟩])
 (.seq (.reg [
 p 199 (.faddr 9) [.s 3],
 p 200 (.load none) [.s 199],
 p 201 (.faddr 9) [.s 3],
 p 202 (.load none) [.s 201],
 p 203 .len [.s 202],
 p 204 (.bin .sub) [.s 203, .c (.int .i64 1)],
 p 205 (.slice 3 false true) [.s 200, .s 204],
 p 206 (.faddr 9) [.s 3],
  ⟨514, false, .store 1, [.s 206, .s 205], none, [], []⟩])
 (.seq (.reg [
 p 207 (.faddr 2) [.s 9],
 p 208 (.load none) [.s 207],
 p 209 (.bin .gtr) [.s 208, .c zz]])
 (.cond (.s 209) (.seq (.reg [
 p 210 (.faddr 2) [.s 9],
 p 211 (.load none) [.s 210],
 p 212 (.bin .sub) [.s 211, .c (.int .i64 1)],
 p 213 (.faddr 2) [.s 9],
  ⟨515, false, .store 1, [.s 213, .s 212], none, [], []⟩])
 (.seq (.reg [
 p 214 (.faddr 9) [.s 3],
 p 215 (.load none) [.s 214],
 p 216 (.load (some 3)) [.s 9],
 p 217 (.buildSl 3 [zz, zz, zz] 1 [0]) [.s 216],
 p 218 (.app 3 24 [zz, zz, zz]) [.s 215, .s 217],
 p 219 (.faddr 9) [.s 3],
  ⟨516, false, .store 1, [.s 219, .s 218], none, [], []⟩])
 (.seq (.reg [
 p 220 (.faddr 0) [.s 9],
 p 221 (.load none) [.s 220],
 p 222 (.faddr 0) [.s 3],
  ⟨517, false, .store 1, [.s 222, .s 221], none, [], []⟩])
 (.exit 1))))
 .skip))))))))
 (.seq (.drw [
  ⟨223, true, .load (some 11), [.s 3], none, [3], []⟩,
  ⟨224, true, .load (some 4), [.s 7], none, [7], []⟩,
  ⟨518, false, .store 11, [.s 4, .s 223], none, [4, 10, 13, 168, 169, 217, 218], [4]⟩,
  ⟨519, false, .store 4, [.s 5, .s 224], none, [5], [5]⟩,
 p 6 .mv [.c (.bool true)]])
 .ret)))))))))
def F245 : AFun where
  n := 19
  res := [.tmp 4]
  code := (.seq (.reg [
 p 2 (.box 6) [.s 0],
 p 3 (.box 28) [.s 1],
 p 4 .mv [.c et]])
 (.seq (.seq (.reg [
 p 5 (.faddr 3) [.s 3],
 p 6 (.load none) [.s 5]])
 (.block 0 (.seq (.reg [
 p 8 (.bin .eql) [.s 6, .c zz],
 p 7 .mv [.s 8]])
 (.cond (.s 7) (.seq (.reg [
 p 9 (.faddr 3) [.s 2],
 p 10 (.load none) [.s 9],
 p 4 .mv [.s 10]])
 .ret)
 (.seq (.reg [
 p 12 (.bin .eql) [.s 6, .c (.int .i64 1)],
 p 11 .mv [.s 12]])
 (.cond (.s 11) (.seq (.reg [
 p 13 (.faddr 4) [.s 2],
 p 14 (.load none) [.s 13],
 p 4 .mv [.s 14]])
 .ret)
 (.seq (.reg [
 p 16 (.bin .eql) [.s 6, .c (.int .i64 2)],
 p 15 .mv [.s 16]])
 (.cond (.s 15) (.seq (.reg [
 p 17 (.faddr 5) [.s 2],
 p 18 (.load none) [.s 17],
 p 4 .mv [.s 18]])
 .ret)
 .skip))))))))
 (.seq (.reg [
 p 4 .mv [.c et]])
 .ret)))
def F270 : AFun := cloneOf 2 16 [zz, zz]
def F271 : AFun where
  n := 24
  res := [.tmp 6]
  code := (.seq (.reg [
 p 6 .mv [.c ff]])
 (.seq (.reg [
 p 7 .mv [.s 0],
 p 8 .mv [.s 1],
 p 9 (.call 286) [.s 7, .s 8],
 p 10 .mv [.s 9],
  ⟨11, true, .mv, [.s 2], (some (10, true)), [], []⟩,
  ⟨12, true, .bin .geq, [.s 11, .c zz], (some (10, true)), [], []⟩,
 p 13 .pick [.s 10, .s 12, .c ff],
 p 14 .mv [.s 13],
  ⟨15, true, .mv, [.s 0], (some (14, true)), [], []⟩,
  ⟨16, true, .mv, [.s 1], (some (14, true)), [], []⟩,
  ⟨17, true, .iaddr 2, [.s 15, .s 16], (some (14, true)), [], []⟩,
  ⟨18, true, .faddr 1, [.s 17], (some (14, true)), [], []⟩,
  ⟨19, true, .load none, [.s 18], (some (14, true)), [], []⟩,
  ⟨20, true, .mv, [.s 2], (some (14, true)), [], []⟩,
  ⟨21, true, .bin .add, [.s 20, .c (.int .i64 1)], (some (14, true)), [], []⟩,
  ⟨22, true, .bin .eql, [.s 19, .s 21], (some (14, true)), [], []⟩,
 p 23 .pick [.s 14, .s 22, .c ff],
 p 6 .mv [.s 23]])
 .ret))
def F274 : AFun where
  n := 19
  res := [.tmp 4]
  code := (.seq (.reg [
 p 4 .mv [.c zz]])
 (.seq (.seq (.reg [
 p 6 .mv [.s 0],
 p 7 .len [.s 6],
 p 8 .mv [.c zz]])
 (.block 0 (.loop (.seq (.reg [
 p 9 (.bin .lss) [.s 8, .s 7]])
 (.seq (.cond (.s 9) .skip
 (.exit 0))
 (.seq (.block 1 (.seq (.reg [
 p 10 .mv [.s 8],
 p 5 .mv [.s 10]])
 (.seq (.reg [
 p 11 .mv [.s 1],
 p 12 .mv [.s 0],
 p 13 .mv [.s 5],
 p 14 (.iaddr 1) [.s 12, .s 13],
 p 15 (.load none) [.s 14],
 p 16 .callv [.s 11, .s 15]])
 (.cond (.s 16) (.seq (.reg [
 p 17 .mv [.s 5],
 p 4 .mv [.s 17]])
 .ret)
 .skip))))
 (.reg [
 p 18 (.bin .add) [.s 8, .c (.int .i64 1)],
 p 8 .mv [.s 18]])))))))
 (.seq (.reg [
 p 4 .mv [.c (.int .i64 (-1))]])
 .ret)))
def F281 : AFun where
  n := 16
  res := [.cell 2 (some 28)]
  code := (.seq (.reg [
 p 1 (.box 28) [.s 0],
 p 2 (.zero [zz, zz, zz, zz, zz, zz, zz, zz, zz, zz, zz, zz, zz, et, ff, zz, zz, zz, zz, zz, zz, zz, zz, zz, et, ff, et, ff]) []])
 (.seq (.drw [
 p 3 (.faddr 4) [.s 1],
  ⟨4, true, .load (some 11), [.s 3], none, [1], []⟩,
  ⟨5, true, .call 284, [.s 4], none, [5, 8, 11], [5, 8, 11]⟩,
 p 6 (.faddr 15) [.s 1],
  ⟨7, true, .load (some 11), [.s 6], none, [1], []⟩,
  ⟨8, true, .call 284, [.s 7], none, [5, 8, 11], [5, 8, 11]⟩,
 p 9 (.faddr 26) [.s 1],
  ⟨10, true, .load none, [.s 9], none, [1], []⟩,
  ⟨11, true, .call 137, [.s 10], none, [5, 8, 11], [5, 8, 11]⟩,
 p 12 (.faddr 4) [.s 1],
  ⟨500, false, .store 11, [.s 12, .s 5], none, [1, 5], [1]⟩,
 p 13 (.faddr 15) [.s 1],
  ⟨501, false, .store 11, [.s 13, .s 8], none, [1, 8], [1]⟩,
 p 14 (.faddr 26) [.s 1],
  ⟨502, false, .store 1, [.s 14, .s 11], none, [1, 11], [1]⟩])
 (.seq (.reg [
 p 15 (.load (some 28)) [.s 1],
  ⟨503, false, .store 28, [.s 2, .s 15], none, [], []⟩])
 .ret)))
def F284 : AFun where
  n := 8
  res := [.cell 2 (some 11)]
  code := (.seq (.reg [
 p 1 (.box 11) [.s 0],
 p 2 (.zero [zz, zz, zz, zz, zz, zz, zz, zz, zz, et, ff]) []])
 (.seq (.reg [
 p 3 (.faddr 9) [.s 1],
 p 4 (.load none) [.s 3],
 p 5 (.call 136) [.s 4],
 p 6 (.faddr 9) [.s 1],
  ⟨500, false, .store 1, [.s 6, .s 5], none, [], []⟩])
 (.seq (.reg [
 p 7 (.load (some 11)) [.s 1],
  ⟨501, false, .store 11, [.s 2, .s 7], none, [], []⟩])
 .ret)))
def F286 : AFun where
  n := 13
  res := [.tmp 4]
  code := (.seq (.reg [
 p 4 .mv [.c ff]])
 (.seq (.reg [
 p 5 .mv [.s 1],
 p 6 (.bin .geq) [.s 5, .c zz],
 p 7 .mv [.s 6],
  ⟨8, true, .mv, [.s 1], (some (7, true)), [], []⟩,
  ⟨9, true, .mv, [.s 0], (some (7, true)), [], []⟩,
  ⟨10, true, .len, [.s 9], (some (7, true)), [], []⟩,
  ⟨11, true, .bin .lss, [.s 8, .s 10], (some (7, true)), [], []⟩,
 p 12 .pick [.s 7, .s 11, .c ff],
 p 4 .mv [.s 12]])
 .ret))
def F288 : AFun where
  n := 33
  res := [.cell 4 (some 28)]
  code := (.seq (.reg [
 p 2 (.box 6) [.s 0],
 p 3 (.box 28) [.s 1],
 p 4 (.zero [zz, zz, zz, zz, zz, zz, zz, zz, zz, zz, zz, zz, zz, et, ff, zz, zz, zz, zz, zz, zz, zz, zz, zz, et, ff, et, ff]) []])
 (.seq (.reg [
 p 6 (.load (some 28)) [.s 3],
 p 7 (.call 281) [.s 6],
 p 5 (.zero [zz, zz, zz, zz, zz, zz, zz, zz, zz, zz, zz, zz, zz, et, ff, zz, zz, zz, zz, zz, zz, zz, zz, zz, et, ff, et, ff]) [],
  ⟨500, false, .store 28, [.s 5, .s 7], none, [], []⟩])
 (.seq (.reg [
 p 8 (.faddr 26) [.s 5],
  ⟨501, false, .store 1, [.s 8, .c et], none, [], []⟩])
 (.seq (.seq (.reg [
 p 9 (.faddr 3) [.s 3],
 p 10 (.load none) [.s 9],
 p 11 (.bin .eql) [.s 10, .c zz],
 p 12 .mv [.s 11],
  ⟨13, true, .faddr 4, [.s 2], (some (12, true)), [], []⟩,
  ⟨14, true, .load none, [.s 13], (some (12, true)), [], []⟩,
  ⟨15, true, .len, [.s 14], (some (12, true)), [], []⟩,
  ⟨16, true, .bin .gtr, [.s 15, .c zz], (some (12, true)), [], []⟩,
 p 17 .pick [.s 12, .s 16, .c ff]])
 (.cond (.s 17) (.seq (.drw [
 p 18 (.faddr 2) [.s 3],
  ⟨19, true, .load none, [.s 18], none, [3], []⟩,
 p 20 (.call 155) [.s 19],
 p 21 (.faddr 2) [.s 3],
  ⟨22, true, .load none, [.s 21], none, [3], []⟩,
 p 23 (.call 155) [.s 22],
 p 24 (.faddr 3) [.s 5],
  ⟨502, false, .store 1, [.s 24, .c (.int .i64 1)], none, [5], [5]⟩,
 p 25 (.faddr 4) [.s 5],
  ⟨503, false, .store 11, [.s 25, .s 20], none, [5, 20], [5]⟩,
 p 26 (.faddr 15) [.s 5],
  ⟨504, false, .store 11, [.s 26, .s 23], none, [5, 23], [5]⟩])
 (.seq (.reg [
 p 27 (.load (some 28)) [.s 5],
  ⟨505, false, .store 28, [.s 4, .s 27], none, [], []⟩])
 .ret))
 .skip))
 (.seq (.reg [
 p 28 (.faddr 15) [.s 3],
 p 29 (.load (some 11)) [.s 28],
 p 30 (.call 284) [.s 29],
 p 31 (.faddr 4) [.s 5],
  ⟨506, false, .store 11, [.s 31, .s 30], none, [], []⟩])
 (.seq (.reg [
 p 32 (.load (some 28)) [.s 5],
  ⟨507, false, .store 28, [.s 4, .s 32], none, [], []⟩])
 .ret))))))
def F298 : AFun where
  n := 35
  res := [.tmp 4]
  code := (.seq (.reg [
 p 4 .mv [.c zz]])
 (.seq (.seq (.reg [
 p 5 .mv [.s 1],
 p 6 (.bin .lss) [.s 5, .c (.int .i64 (-63))],
 p 7 .mv [.s 6],
  ⟨8, true, .mv, [.s 1], (some (7, false)), [], []⟩,
  ⟨9, true, .bin .gtr, [.s 8, .c (.int .i64 63)], (some (7, false)), [], []⟩,
 p 10 .pick [.s 7, .c (.bool true), .s 9]])
 (.cond (.s 10) (.seq (.reg [
 p 11 .mv [.s 0],
 p 4 .mv [.s 11]])
 .ret)
 .skip))
 (.seq (.block 0 (.loop (.seq (.seq (.reg [
 p 12 .mv [.s 1],
 p 13 (.bin .gtr) [.s 12, .c zz]])
 (.cond (.s 13) .skip
 (.exit 0)))
 (.seq (.block 1 (.reg [
 p 16 .mv [.s 0],
 p 17 (.bin .mul) [.s 16, .c (.int .i64 2)],
 p 0 .mv [.s 17]]))
 (.reg [
 p 14 .mv [.s 1],
 p 15 (.bin .sub) [.s 14, .c (.int .i64 1)],
 p 1 .mv [.s 15]])))))
 (.seq (.block 2 (.loop (.seq (.seq (.reg [
 p 18 .mv [.s 1],
 p 19 (.bin .lss) [.s 18, .c zz]])
 (.cond (.s 19) .skip
 (.exit 2)))
 (.seq (.block 3 (.seq (.reg [
 p 22 .mv [.s 0],
 p 23 (.bin .lss) [.s 22, .c zz],
 p 24 .mv [.s 23],
  ⟨25, true, .mv, [.s 0], (some (24, true)), [], []⟩,
  ⟨26, true, .bin .rem, [.s 25, .c (.int .i64 2)], (some (24, true)), [], []⟩,
  ⟨27, true, .bin .neq, [.s 26, .c zz], (some (24, true)), [], []⟩,
 p 28 .pick [.s 24, .s 27, .c ff]])
 (.cond (.s 28) (.reg [
 p 29 .mv [.s 0],
 p 30 (.bin .quo) [.s 29, .c (.int .i64 2)],
 p 31 (.bin .sub) [.s 30, .c (.int .i64 1)],
 p 0 .mv [.s 31]])
 (.reg [
 p 32 .mv [.s 0],
 p 33 (.bin .quo) [.s 32, .c (.int .i64 2)],
 p 0 .mv [.s 33]]))))
 (.reg [
 p 20 .mv [.s 1],
 p 21 (.bin .add) [.s 20, .c (.int .i64 1)],
 p 1 .mv [.s 21]])))))
 (.seq (.reg [
 p 34 .mv [.s 0],
 p 4 .mv [.s 34]])
 .ret)))))
def F299 : AFun where
  n := 31
  res := [.tmp 4]
  code := (.seq (.reg [
 p 4 .mv [.c zz]])
 (.seq (.seq (.reg [
 p 6 .mv [.s 1],
 p 7 (.bin .lss) [.s 6, .c (.int .i64 1)],
 p 8 .mv [.s 7],
  ⟨9, true, .mv, [.s 1], (some (8, false)), [], []⟩,
  ⟨10, true, .bin .gtr, [.s 9, .c (.int .i64 63)], (some (8, false)), [], []⟩,
 p 11 .pick [.s 8, .c (.bool true), .s 10]])
 (.cond (.s 11) (.seq (.reg [
 p 12 .mv [.s 0],
 p 4 .mv [.s 12]])
 .ret)
 .skip))
 (.seq (.reg [
 p 13 .mv [.s 0],
 p 14 (.conv .u64) [.s 13],
 p 15 .mv [.s 1],
 p 16 (.call 330) [.s 15],
 p 17 (.bin .rem) [.s 14, .s 16],
 p 5 .mv [.s 17]])
 (.seq (.seq (.reg [
 p 18 .mv [.s 5],
 p 19 .mv [.s 1],
 p 20 (.bin .sub) [.s 19, .c (.int .i64 1)],
 p 21 (.call 330) [.s 20],
 p 22 (.bin .geq) [.s 18, .s 21]])
 (.cond (.s 22) (.seq (.reg [
 p 23 .mv [.s 1],
 p 24 (.call 330) [.s 23],
 p 25 .mv [.s 5],
 p 26 (.bin .sub) [.s 24, .s 25],
 p 27 (.conv .i64) [.s 26],
 p 28 (.un .neg) [.s 27],
 p 4 .mv [.s 28]])
 .ret)
 .skip))
 (.seq (.reg [
 p 29 .mv [.s 5],
 p 30 (.conv .i64) [.s 29],
 p 4 .mv [.s 30]])
 .ret)))))
def F330 : AFun where
  n := 11
  res := [.tmp 2]
  code := (.seq (.reg [
 p 2 .mv [.c (.int .u64 0)]])
 (.seq (.reg [
 p 3 .mv [.c (.int .u64 1)]])
 (.seq (.block 0 (.loop (.seq (.seq (.reg [
 p 4 .mv [.s 0],
 p 5 (.bin .gtr) [.s 4, .c zz]])
 (.cond (.s 5) .skip
 (.exit 0)))
 (.seq (.block 1 (.reg [
 p 8 .mv [.s 3],
 p 9 (.bin .mul) [.c (.int .u64 2), .s 8],
 p 3 .mv [.s 9]]))
 (.reg [
 p 6 .mv [.s 0],
 p 7 (.bin .sub) [.s 6, .c (.int .i64 1)],
 p 0 .mv [.s 7]])))))
 (.seq (.reg [
 p 10 .mv [.s 3],
 p 2 .mv [.s 10]])
 .ret))))
def F1001 : AFun where
  n := 111
  res := [.tmp 6]
  code := (.seq (.reg [
 p 6 .mv [.c ff]])
 (.seq (.seq (.reg [
 p 16 (.call 1004) [],
 p 17 (.un .not) [.s 16]])
 (.cond (.s 17) (.seq (.reg [
 p 6 .mv [.c ff]])
 .ret)
 .skip))
 (.seq (.seq (.reg [
 p 18 .mv [.s 0],
 p 19 .len [.s 18],
 p 20 (.bin .gtr) [.s 19, .c (.int .i64 150)]])
 (.cond (.s 20) (.seq (.reg [
 p 6 .mv [.c (.bool true)]])
 .ret)
 .skip))
 (.seq (.reg [
 p 21 .mv [.s 0],
 p 22 (.call 6) [.s 21],
 p 23 (.call 19) [.s 22, .c (.int .i64 1), .c (.int .i64 3)],
 p 7 (.zero [zz, zz, zz, et, et, et]) [],
  ⟨500, false, .store 6, [.s 7, .s 23], none, [], []⟩])
 (.seq (.reg [
 p 24 .mv [.s 1],
 p 25 (.call 170) [.c (.int .i64 1), .c (.int .i64 2), .s 24],
 p 8 (.zero [zz, zz, zz, zz, zz, zz, zz, zz, zz, zz, zz, zz, zz, et, ff, zz, zz, zz, zz, zz, zz, zz, zz, zz, et, ff, et, ff]) [],
  ⟨501, false, .store 28, [.s 8, .s 25], none, [], []⟩])
 (.seq (.seq (.reg [
 p 9 .mv [.c zz]])
 (.block 0 (.loop (.seq (.seq (.reg [
 p 26 .mv [.s 9],
 p 27 .mv [.s 2],
 p 28 (.bin .rem) [.s 27, .c (.int .u8 40)],
 p 29 (.conv .i64) [.s 28],
 p 30 (.bin .lss) [.s 26, .s 29],
 p 31 .mv [.s 30],
  ⟨32, true, .faddr 4, [.s 8], (some (31, true)), [], []⟩,
  ⟨33, true, .faddr 10, [.s 32], (some (31, true)), [], []⟩,
  ⟨34, true, .load none, [.s 33], (some (31, true)), [], []⟩,
  ⟨35, true, .un .not, [.s 34], (some (31, true)), [], []⟩,
 p 36 .pick [.s 31, .s 35, .c ff]])
 (.cond (.s 36) .skip
 (.exit 0)))
 (.seq (.block 1 (.reg [
 p 40 (.load (some 6)) [.s 7],
 p 41 (.load (some 28)) [.s 8],
 p 42 (.call 185) [.s 40, .s 41],
 p 39 .mv [.s 42],
 p 43 (.extract 0) [.s 39],
 p 44 (.extract 1) [.s 39],
 p 45 (.extract 2) [.s 39],
  ⟨502, false, .store 28, [.s 8, .s 43], none, [], []⟩]))
 (.reg [
 p 37 .mv [.s 9],
 p 38 (.bin .add) [.s 37, .c (.int .i64 1)],
 p 9 .mv [.s 38]]))))))
 (.seq (.reg [
 p 47 (.load (some 6)) [.s 7],
 p 48 (.load (some 28)) [.s 8],
 p 49 (.build [zz, zz] [(1, 1)]) [.c (.int .i64 2)],
 p 50 (.build [zz, zz] [(1, 1)]) [.c (.int .i64 1)],
 p 51 (.buildSl 2 [zz, zz] 2 [0, 1]) [.s 49, .s 50],
 p 52 (.call 228) [.s 47, .s 48, .s 51],
 p 46 .mv [.s 52],
 p 53 (.extract 0) [.s 46],
 p 54 (.extract 1) [.s 46],
 p 55 (.extract 2) [.s 46],
 p 10 (.zero [zz, zz, zz, zz, zz, zz, zz, zz, zz, zz, zz, zz, zz, et, ff, zz, zz, zz, zz, zz, zz, zz, zz, zz, et, ff, et, ff]) [],
  ⟨503, false, .store 28, [.s 10, .s 53], none, [], []⟩,
 p 11 .mv [.s 54],
 p 12 .mv [.s 55]])
 (.seq (.reg [
 p 57 (.load (some 6)) [.s 7],
 p 58 (.load (some 28)) [.s 10],
 p 59 .mv [.s 11],
 p 60 (.call 228) [.s 57, .s 58, .s 59],
 p 56 .mv [.s 60],
 p 61 (.extract 0) [.s 56],
 p 62 (.extract 1) [.s 56],
 p 63 (.extract 2) [.s 56],
 p 13 (.zero [zz, zz, zz, zz, zz, zz, zz, zz, zz, zz, zz, zz, zz, et, ff, zz, zz, zz, zz, zz, zz, zz, zz, zz, et, ff, et, ff]) [],
  ⟨504, false, .store 28, [.s 13, .s 61], none, [], []⟩,
 p 14 .mv [.s 62],
 p 15 .mv [.s 63]])
 (.seq (.seq (.reg [
 p 64 .mv [.s 11],
 p 65 .len [.s 64],
 p 66 (.bin .neq) [.s 65, .c (.int .i64 2)],
 p 67 .mv [.s 66],
  ⟨68, true, .mv, [.s 11], (some (67, false)), [], []⟩,
  ⟨69, true, .iaddr 2, [.s 68, .c zz], (some (67, false)), [], []⟩,
  ⟨70, true, .faddr 1, [.s 69], (some (67, false)), [], []⟩,
  ⟨71, true, .load none, [.s 70], (some (67, false)), [], []⟩,
  ⟨72, true, .bin .neq, [.s 71, .c zz], (some (67, false)), [], []⟩,
 p 73 .pick [.s 67, .c (.bool true), .s 72],
 p 74 .mv [.s 73],
  ⟨75, true, .mv, [.s 11], (some (74, false)), [], []⟩,
  ⟨76, true, .iaddr 2, [.s 75, .c (.int .i64 1)], (some (74, false)), [], []⟩,
  ⟨77, true, .faddr 1, [.s 76], (some (74, false)), [], []⟩,
  ⟨78, true, .load none, [.s 77], (some (74, false)), [], []⟩,
  ⟨79, true, .bin .neq, [.s 78, .c (.int .i64 1)], (some (74, false)), [], []⟩,
 p 80 .pick [.s 74, .c (.bool true), .s 79],
 p 81 .mv [.s 80],
  ⟨82, true, .mv, [.s 11], (some (81, false)), [], []⟩,
  ⟨83, true, .mv, [.s 14], (some (81, false)), [], []⟩,
  ⟨84, true, .call 1005, [.s 82, .s 83], (some (81, false)), [], []⟩,
  ⟨85, true, .un .not, [.s 84], (some (81, false)), [], []⟩,
 p 86 .pick [.s 81, .c (.bool true), .s 85]])
 (.cond (.s 86) (.seq (.reg [
 p 6 .mv [.c ff]])
 .ret)
 .skip))
 (.seq (.reg [
 p 87 .mv [.s 15],
 p 88 (.bin .eql) [.s 87, .c (.int .i64 6)],
 p 89 .mv [.s 88],
  ⟨90, true, .load (some 28), [.s 10], (some (89, true)), [], []⟩,
  ⟨91, true, .load (some 28), [.s 13], (some (89, true)), [], []⟩,
  ⟨92, true, .call 60, [.s 90, .s 91], (some (89, true)), [], []⟩,
 p 93 .pick [.s 89, .s 92, .c ff],
 p 94 .mv [.s 93],
  ⟨95, true, .mv, [.s 12], (some (94, true)), [], []⟩,
  ⟨96, true, .bin .eql, [.s 95, .c (.int .i64 7)], (some (94, true)), [], []⟩,
  ⟨97, true, .faddr 4, [.s 7], (some (94, true)), [], []⟩,
  ⟨98, true, .load none, [.s 97], (some (94, true)), [], []⟩,
  ⟨99, true, .len, [.s 98], (some (94, true)), [], []⟩,
  ⟨100, true, .bin .gtr, [.s 99, .c zz], (some (94, true)), [], []⟩,
  ⟨101, true, .eqv false [none] false, [.s 96, .s 100], (some (94, true)), [], []⟩,
 p 102 .pick [.s 94, .s 101, .c ff],
 p 103 .mv [.s 102],
  ⟨104, true, .mv, [.s 12], (some (103, true)), [], []⟩,
  ⟨105, true, .bin .eql, [.s 104, .c (.int .i64 7)], (some (103, true)), [], []⟩,
  ⟨106, true, .mv, [.s 105], (some (103, true)), [], []⟩,
  ⟨107, true, .mv, [.s 12], (some (106, false)), [], []⟩,
  ⟨108, true, .bin .eql, [.s 107, .c (.int .i64 6)], (some (106, false)), [], []⟩,
  ⟨109, true, .pick, [.s 106, .c (.bool true), .s 108], (some (103, true)), [], []⟩,
 p 110 .pick [.s 103, .s 109, .c ff],
 p 6 .mv [.s 110]])
 .ret))))))))))
def F1004 : AFun where
  n := 69
  res := [.tmp 0]
  code := (.seq (.reg [
 p 0 .mv [.c ff]])
 (.seq (.reg [
 p 9 (.build [zz, zz, zz, zz] [(0, 1)]) [.c zz],
 p 10 (.buildSl 4 [zz, zz, zz, zz] 1 [0]) [.s 9],
 p 11 (.build [zz, zz, zz, zz] [(0, 1)]) [.c zz],
 p 12 (.buildSl 4 [zz, zz, zz, zz] 1 [0]) [.s 11],
 p 13 (.build [zz, zz, zz, et, et, et] [(3, 1), (4, 1)]) [.s 10, .s 12],
 p 1 (.zero [zz, zz, zz, et, et, et]) [],
  ⟨500, false, .store 6, [.s 1, .s 13], none, [], []⟩])
 (.seq (.reg [
 p 14 (.call 170) [.c (.int .i64 1), .c zz, .c (.int .i64 7)],
 p 2 (.zero [zz, zz, zz, zz, zz, zz, zz, zz, zz, zz, zz, zz, zz, et, ff, zz, zz, zz, zz, zz, zz, zz, zz, zz, et, ff, et, ff]) [],
  ⟨501, false, .store 28, [.s 2, .s 14], none, [], []⟩])
 (.seq (.reg [
 p 15 (.buildSl 1 [zz] 1 [0]) [.c zz],
 p 16 (.faddr 26) [.s 2],
  ⟨502, false, .store 1, [.s 16, .s 15], none, [], []⟩])
 (.seq (.reg [
 p 18 (.load (some 6)) [.s 1],
 p 19 (.load (some 28)) [.s 2],
 p 20 (.build [zz, zz] [(1, 1)]) [.c (.int .i64 2)],
 p 21 (.buildSl 2 [zz, zz] 1 [0]) [.s 20],
 p 22 (.call 228) [.s 18, .s 19, .s 21],
 p 17 .mv [.s 22],
 p 23 (.extract 0) [.s 17],
 p 24 (.extract 1) [.s 17],
 p 25 (.extract 2) [.s 17],
 p 3 (.zero [zz, zz, zz, zz, zz, zz, zz, zz, zz, zz, zz, zz, zz, et, ff, zz, zz, zz, zz, zz, zz, zz, zz, zz, et, ff, et, ff]) [],
  ⟨503, false, .store 28, [.s 3, .s 23], none, [], []⟩,
 p 4 .mv [.s 24],
 p 5 .mv [.s 25]])
 (.seq (.reg [
 p 27 (.load (some 6)) [.s 1],
 p 28 (.load (some 28)) [.s 3],
 p 29 (.call 228) [.s 27, .s 28, .c et],
 p 26 .mv [.s 29],
 p 30 (.extract 0) [.s 26],
 p 31 (.extract 1) [.s 26],
 p 32 (.extract 2) [.s 26],
 p 6 (.zero [zz, zz, zz, zz, zz, zz, zz, zz, zz, zz, zz, zz, zz, et, ff, zz, zz, zz, zz, zz, zz, zz, zz, zz, et, ff, et, ff]) [],
  ⟨504, false, .store 28, [.s 6, .s 30], none, [], []⟩,
 p 7 .mv [.s 31],
 p 8 .mv [.s 32]])
 (.seq (.reg [
 p 33 .mv [.s 5],
 p 34 (.bin .eql) [.s 33, .c (.int .i64 7)],
 p 35 .mv [.s 34],
  ⟨36, true, .faddr 3, [.s 3], (some (35, true)), [], []⟩,
  ⟨37, true, .load none, [.s 36], (some (35, true)), [], []⟩,
  ⟨38, true, .bin .eql, [.s 37, .c (.int .i64 1)], (some (35, true)), [], []⟩,
 p 39 .pick [.s 35, .s 38, .c ff],
 p 40 .mv [.s 39],
  ⟨41, true, .faddr 26, [.s 3], (some (40, true)), [], []⟩,
  ⟨42, true, .load none, [.s 41], (some (40, true)), [], []⟩,
  ⟨43, true, .len, [.s 42], (some (40, true)), [], []⟩,
  ⟨44, true, .bin .eql, [.s 43, .c zz], (some (40, true)), [], []⟩,
 p 45 .pick [.s 40, .s 44, .c ff],
 p 46 .mv [.s 45],
  ⟨47, true, .mv, [.s 4], (some (46, true)), [], []⟩,
  ⟨48, true, .len, [.s 47], (some (46, true)), [], []⟩,
  ⟨49, true, .bin .eql, [.s 48, .c (.int .i64 1)], (some (46, true)), [], []⟩,
 p 50 .pick [.s 46, .s 49, .c ff],
 p 51 .mv [.s 50],
  ⟨52, true, .mv, [.s 4], (some (51, true)), [], []⟩,
  ⟨53, true, .iaddr 2, [.s 52, .c zz], (some (51, true)), [], []⟩,
  ⟨54, true, .faddr 1, [.s 53], (some (51, true)), [], []⟩,
  ⟨55, true, .load none, [.s 54], (some (51, true)), [], []⟩,
  ⟨56, true, .bin .eql, [.s 55, .c zz], (some (51, true)), [], []⟩,
 p 57 .pick [.s 51, .s 56, .c ff],
 p 58 .mv [.s 57],
  ⟨59, true, .mv, [.s 8], (some (58, true)), [], []⟩,
  ⟨60, true, .bin .eql, [.s 59, .c (.int .i64 6)], (some (58, true)), [], []⟩,
 p 61 .pick [.s 58, .s 60, .c ff],
 p 62 .mv [.s 61],
  ⟨63, true, .load (some 28), [.s 2], (some (62, true)), [], []⟩,
  ⟨64, true, .call 144, [.s 63, .c zz], (some (62, true)), [], []⟩,
  ⟨65, true, .field 26 none, [.s 64], (some (62, true)), [], []⟩,
  ⟨66, true, .len, [.s 65], (some (62, true)), [], []⟩,
  ⟨67, true, .bin .eql, [.s 66, .c zz], (some (62, true)), [], []⟩,
 p 68 .pick [.s 62, .s 67, .c ff],
 p 0 .mv [.s 68]])
 .ret)))))))
def F1005 : AFun where
  n := 26
  res := [.tmp 4]
  code := (.seq (.reg [
 p 4 .mv [.c ff]])
 (.seq (.seq (.reg [
 p 6 .mv [.s 0],
 p 7 .len [.s 6],
 p 8 .mv [.s 1],
 p 9 .len [.s 8],
 p 10 (.bin .neq) [.s 7, .s 9]])
 (.cond (.s 10) (.seq (.reg [
 p 4 .mv [.c ff]])
 .ret)
 .skip))
 (.seq (.seq (.reg [
 p 5 .mv [.c zz]])
 (.block 0 (.loop (.seq (.seq (.reg [
 p 11 .mv [.s 5],
 p 12 .mv [.s 0],
 p 13 .len [.s 12],
 p 14 (.bin .lss) [.s 11, .s 13]])
 (.cond (.s 14) .skip
 (.exit 0)))
 (.seq (.block 1 (.seq (.drw [
 p 17 .mv [.s 0],
 p 18 .mv [.s 5],
 p 19 (.iaddr 2) [.s 17, .s 18],
 p 20 (.load (some 2)) [.s 19],
 p 21 .mv [.s 1],
 p 22 .mv [.s 5],
 p 23 (.iaddr 2) [.s 21, .s 22],
 p 24 (.load (some 2)) [.s 23],
 p 25 (.eqv true [some .i64, some .i64] true) [.s 20, .s 24]])
 (.cond (.s 25) (.seq (.reg [
 p 4 .mv [.c ff]])
 .ret)
 .skip)))
 (.reg [
 p 15 .mv [.s 5],
 p 16 (.bin .add) [.s 15, .c (.int .i64 1)],
 p 5 .mv [.s 16]]))))))
 (.seq (.reg [
 p 4 .mv [.c (.bool true)]])
 .ret))))
def modeL : List (Nat × List Mode) := [(18, [.bor, .lend]), (19, [.bor, .lend, .lend]), (41, [.bor, .lend]), (69, [.bor, .lend, .lend]), (120, [.bor]), (219, [.give, .lend])]
def modes (f : Nat) : List Mode := (modeL.lookup f).getD []
@[simp] theorem m6 : modes 6 = [] := rfl
@[simp] theorem m18 : modes 18 = [.bor, .lend] := rfl
@[simp] theorem m19 : modes 19 = [.bor, .lend, .lend] := rfl
@[simp] theorem m41 : modes 41 = [.bor, .lend] := rfl
@[simp] theorem m60 : modes 60 = [] := rfl
@[simp] theorem m63 : modes 63 = [] := rfl
@[simp] theorem m69 : modes 69 = [.bor, .lend, .lend] := rfl
@[simp] theorem m94 : modes 94 = [] := rfl
@[simp] theorem m114 : modes 114 = [] := rfl
@[simp] theorem m120 : modes 120 = [.bor] := rfl
@[simp] theorem m136 : modes 136 = [] := rfl
@[simp] theorem m137 : modes 137 = [] := rfl
@[simp] theorem m144 : modes 144 = [] := rfl
@[simp] theorem m155 : modes 155 = [] := rfl
@[simp] theorem m158 : modes 158 = [] := rfl
@[simp] theorem m170 : modes 170 = [] := rfl
@[simp] theorem m185 : modes 185 = [] := rfl
@[simp] theorem m216 : modes 216 = [] := rfl
@[simp] theorem m218 : modes 218 = [] := rfl
@[simp] theorem m219 : modes 219 = [.give, .lend] := rfl
@[simp] theorem m220 : modes 220 = [] := rfl
@[simp] theorem m228 : modes 228 = [] := rfl
@[simp] theorem m239 : modes 239 = [] := rfl
@[simp] theorem m244 : modes 244 = [] := rfl
@[simp] theorem m245 : modes 245 = [] := rfl
@[simp] theorem m270 : modes 270 = [] := rfl
@[simp] theorem m271 : modes 271 = [] := rfl
@[simp] theorem m274 : modes 274 = [] := rfl
@[simp] theorem m281 : modes 281 = [] := rfl
@[simp] theorem m284 : modes 284 = [] := rfl
@[simp] theorem m286 : modes 286 = [] := rfl
@[simp] theorem m288 : modes 288 = [] := rfl
@[simp] theorem m298 : modes 298 = [] := rfl
@[simp] theorem m299 : modes 299 = [] := rfl
@[simp] theorem m330 : modes 330 = [] := rfl
@[simp] theorem m1001 : modes 1001 = [] := rfl
@[simp] theorem m1004 : modes 1004 = [] := rfl
@[simp] theorem m1005 : modes 1005 = [] := rfl
def funs : Nat → Option (AFun × Bool)
  | 6 => some (F6, true)
  | 18 => some (F18, true)
  | 19 => some (F19, false)
  | 41 => some (F41, true)
  | 60 => some (F60, true)
  | 63 => some (F63, true)
  | 69 => some (F69, true)
  | 94 => some (F94, true)
  | 114 => some (F114, true)
  | 120 => some (F120, true)
  | 144 => some (F144, false)
  | 155 => some (F155, false)
  | 158 => some (F158, true)
  | 170 => some (F170, false)
  | 185 => some (F185, false)
  | 216 => some (F216, false)
  | 218 => some (F218, true)
  | 219 => some (F219, true)
  | 220 => some (F220, true)
  | 228 => some (F228, false)
  | 239 => some (F239, false)
  | 244 => some (F244, false)
  | 245 => some (F245, false)
  | 271 => some (F271, true)
  | 274 => some (F274, true)
  | 281 => some (F281, true)
  | 284 => some (F284, false)
  | 286 => some (F286, true)
  | 288 => some (F288, false)
  | 298 => some (F298, true)
  | 299 => some (F299, true)
  | 330 => some (F330, true)
  | 1001 => some (F1001, true)
  | 1004 => some (F1004, true)
  | 1005 => some (F1005, true)
  | _ => none
def clones : Nat → Option (Nat × Nat × List V)
  | 136 => some (3, 24, [(.int .i64 0), (.int .i64 0), (.int .i64 0)])
  | 137 => some (1, 8, [(.int .i64 0)])
  | 270 => some (2, 16, [(.int .i64 0), (.int .i64 0)])
  | _ => none
def prims : CallF := cloneP clones
def A : Abi := ⟨modes, []⟩
noncomputable def C : CallF := cw A funs prims
@[simp] theorem A_modes (f : Nat) : A.modes f = modes f := rfl
@[simp] theorem A_fx : A.fx = [] := rfl
theorem c_eq {f : Nat} {F : AFun} {gv : Bool} {args : List V} {r : V × List (List V)} (hp : prims f args = none) (hf : funs f = some (F, gv)) (hl : Nat.ble args.length F.n = true)
    (h : Wp A C F.code (enter args) (finK F.res gv args (fun x => x = r))) : C f args = some r := cw_eq hp hf hl h
theorem c_ex {f : Nat} {F : AFun} {gv : Bool} {args : List V} {R : V × List (List V) → Prop} (hp : prims f args = none) (hf : funs f = some (F, gv)) (hl : Nat.ble args.length F.n = true)
    (h : Wp A C F.code (enter args) (finK F.res gv args R)) : ∃ r, C f args = some r ∧ R r := cw_wp hp hf (Nat.le_of_ble_eq_true hl) h
theorem c_prim {f : Nat} {args : List V} {r : V × List (List V)} (hp : prims f args = some r) : C f args = some r := cw_prim hp
theorem c_clone {f n b : Nat} {z : List V} (hc : clones f = some (n, b, z)) {rows : List (List V)} (hz : z.length = n ∧ b ≤ 4096 ∧ z.all V.one = true) (hr : ∀ r ∈ rows, r.length = n) (hl : rows.length ≤ 1000000) : C f [.sl rows] = some (.fresh rows, []) := by
  refine c_prim ?_
  simp only [prims, cloneP, hc]
  rw [if_pos ⟨hz.1, hz.2.1, hz.2.2, by simpa using hr, by unfold room; omega⟩]
theorem cl136 (rows : List (List V)) (hr : ∀ r ∈ rows, r.length = 3) (hl : rows.length ≤ 1000000) : C 136 [.sl rows] = some (.fresh rows, []) := c_clone (show clones 136 = some (3, 24, [(.int .i64 0), (.int .i64 0), (.int .i64 0)]) from rfl) ⟨rfl, by decide, rfl⟩ hr hl
theorem cl137 (rows : List (List V)) (hr : ∀ r ∈ rows, r.length = 1) (hl : rows.length ≤ 1000000) : C 137 [.sl rows] = some (.fresh rows, []) := c_clone (show clones 137 = some (1, 8, [(.int .i64 0)]) from rfl) ⟨rfl, by decide, rfl⟩ hr hl
theorem cl270 (rows : List (List V)) (hr : ∀ r ∈ rows, r.length = 2) (hl : rows.length ≤ 1000000) : C 270 [.sl rows] = some (.fresh rows, []) := c_clone (show clones 270 = some (2, 16, [(.int .i64 0), (.int .i64 0)]) from rfl) ⟨rfl, by decide, rfl⟩ hr hl
end Fo.W
