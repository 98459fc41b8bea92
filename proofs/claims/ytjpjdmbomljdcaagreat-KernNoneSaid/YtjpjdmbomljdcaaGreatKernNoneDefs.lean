/-
  The functions that KernNone reaches, as the frame's own machine has them.
-/
import Derived.Test.YtjpjdmbomljdcaaGreatFoA45
namespace Fo.Tryz
open Go
abbrev p (d : Nat) (k : K) (xs : List AOpd) : AOp := ⟨d, true, k, xs, none, [], []⟩
abbrev zz : V := .int .i64 0
abbrev ff : V := .bool false
abbrev se : V := .sl []
abbrev et : V := .e true
def F14 : AFun where
  n := 73
  res := [.tmp 4]
  code := (.seq (.reg [
 p 2 (.box 13) [.s 0],
 p 3 (.box 13) [.s 1],
 p 4 .mv [.c ff]])
 (.seq (.reg [
 p 5 (.faddr 0) [.s 2],
 p 6 (.load none) [.s 5],
 p 7 (.faddr 0) [.s 3],
 p 8 (.load none) [.s 7],
 p 9 (.bin .eql) [.s 6, .s 8],
 p 10 .mv [.s 9],
  ⟨11, true, .faddr 1, [.s 2], (some (10, true)), [], []⟩,
  ⟨12, true, .load none, [.s 11], (some (10, true)), [], []⟩,
  ⟨13, true, .faddr 1, [.s 3], (some (10, true)), [], []⟩,
  ⟨14, true, .load none, [.s 13], (some (10, true)), [], []⟩,
  ⟨15, true, .bin .eql, [.s 12, .s 14], (some (10, true)), [], []⟩,
 p 16 .pick [.s 10, .s 15, .c ff],
 p 17 .mv [.s 16],
  ⟨18, true, .faddr 4, [.s 2], (some (17, true)), [], []⟩,
  ⟨19, true, .load none, [.s 18], (some (17, true)), [], []⟩,
  ⟨20, true, .faddr 4, [.s 3], (some (17, true)), [], []⟩,
  ⟨21, true, .load none, [.s 20], (some (17, true)), [], []⟩,
  ⟨22, true, .eqv false [none] false, [.s 19, .s 21], (some (17, true)), [], []⟩,
 p 23 .pick [.s 17, .s 22, .c ff],
 p 24 .mv [.s 23],
  ⟨25, true, .faddr 5, [.s 2], (some (24, true)), [], []⟩,
  ⟨26, true, .load none, [.s 25], (some (24, true)), [], []⟩,
  ⟨27, true, .faddr 5, [.s 3], (some (24, true)), [], []⟩,
  ⟨28, true, .load none, [.s 27], (some (24, true)), [], []⟩,
  ⟨29, true, .eqv false [none] false, [.s 26, .s 28], (some (24, true)), [], []⟩,
 p 30 .pick [.s 24, .s 29, .c ff],
 p 31 .mv [.s 30],
  ⟨32, true, .faddr 6, [.s 2], (some (31, true)), [], []⟩,
  ⟨33, true, .load none, [.s 32], (some (31, true)), [], []⟩,
  ⟨34, true, .faddr 6, [.s 3], (some (31, true)), [], []⟩,
  ⟨35, true, .load none, [.s 34], (some (31, true)), [], []⟩,
  ⟨36, true, .eqv false [none] false, [.s 33, .s 35], (some (31, true)), [], []⟩,
 p 37 .pick [.s 31, .s 36, .c ff],
 p 38 .mv [.s 37],
  ⟨39, true, .faddr 2, [.s 2], (some (38, true)), [], []⟩,
  ⟨40, true, .load none, [.s 39], (some (38, true)), [], []⟩,
  ⟨41, true, .faddr 2, [.s 3], (some (38, true)), [], []⟩,
  ⟨42, true, .load none, [.s 41], (some (38, true)), [], []⟩,
  ⟨43, true, .call 32, [.s 40, .s 42], (some (38, true)), [], []⟩,
 p 44 .pick [.s 38, .s 43, .c ff],
 p 45 .mv [.s 44],
  ⟨46, true, .faddr 3, [.s 2], (some (45, true)), [], []⟩,
  ⟨47, true, .load none, [.s 46], (some (45, true)), [], []⟩,
  ⟨48, true, .faddr 3, [.s 3], (some (45, true)), [], []⟩,
  ⟨49, true, .load none, [.s 48], (some (45, true)), [], []⟩,
  ⟨50, true, .call 33, [.s 47, .s 49], (some (45, true)), [], []⟩,
 p 51 .pick [.s 45, .s 50, .c ff],
 p 52 .mv [.s 51],
  ⟨53, true, .faddr 7, [.s 2], (some (52, true)), [], []⟩,
  ⟨54, true, .load none, [.s 53], (some (52, true)), [], []⟩,
  ⟨55, true, .faddr 7, [.s 3], (some (52, true)), [], []⟩,
  ⟨56, true, .load none, [.s 55], (some (52, true)), [], []⟩,
  ⟨57, true, .call 34, [.s 54, .s 56], (some (52, true)), [], []⟩,
 p 58 .pick [.s 52, .s 57, .c ff],
 p 59 .mv [.s 58],
  ⟨60, true, .faddr 8, [.s 2], (some (59, true)), [], []⟩,
  ⟨61, true, .load (some 3), [.s 60], (some (59, true)), [], []⟩,
  ⟨62, true, .faddr 8, [.s 3], (some (59, true)), [], []⟩,
  ⟨63, true, .load (some 3), [.s 62], (some (59, true)), [], []⟩,
  ⟨64, true, .call 35, [.s 61, .s 63], (some (59, true)), [], []⟩,
 p 65 .pick [.s 59, .s 64, .c ff],
 p 66 .mv [.s 65],
  ⟨67, true, .faddr 11, [.s 2], (some (66, true)), [], []⟩,
  ⟨68, true, .load (some 2), [.s 67], (some (66, true)), [], []⟩,
  ⟨69, true, .faddr 11, [.s 3], (some (66, true)), [], []⟩,
  ⟨70, true, .load (some 2), [.s 69], (some (66, true)), [], []⟩,
  ⟨71, true, .call 36, [.s 68, .s 70], (some (66, true)), [], []⟩,
 p 72 .pick [.s 66, .s 71, .c ff],
 p 4 .mv [.s 72]])
 .ret))
def F15 : AFun where
  n := 30
  res := [.cell 2 (some 13)]
  code := (.seq (.reg [
 p 1 (.box 13) [.s 0],
 p 2 (.zero [zz, zz, et, et, ff, ff, ff, et, et, et, et, et, et]) []])
 (.seq (.drw [
 p 3 (.faddr 0) [.s 1],
  ⟨4, true, .load none, [.s 3], none, [1], []⟩,
 p 5 (.faddr 1) [.s 1],
  ⟨6, true, .load none, [.s 5], none, [1], []⟩,
 p 7 (.faddr 2) [.s 1],
  ⟨8, true, .load none, [.s 7], none, [1], []⟩,
 p 9 (.faddr 3) [.s 1],
  ⟨10, true, .load none, [.s 9], none, [1], []⟩,
 p 11 (.faddr 4) [.s 1],
  ⟨12, true, .load none, [.s 11], none, [1], []⟩,
 p 13 (.faddr 5) [.s 1],
  ⟨14, true, .load none, [.s 13], none, [1], []⟩,
 p 15 (.faddr 6) [.s 1],
  ⟨16, true, .load none, [.s 15], none, [1], []⟩,
 p 17 (.faddr 7) [.s 1],
  ⟨18, true, .load none, [.s 17], none, [1], []⟩,
 p 19 (.faddr 8) [.s 1],
  ⟨20, true, .load (some 3), [.s 19], none, [1], []⟩,
 p 21 (.call 37) [.s 20],
 p 22 (.faddr 11) [.s 1],
 p 23 (.faddr 0) [.s 22],
  ⟨24, true, .load none, [.s 23], none, [1], []⟩,
 p 25 (.faddr 11) [.s 1],
 p 26 (.faddr 1) [.s 25],
  ⟨27, true, .load none, [.s 26], none, [1], []⟩,
 p 28 (.build [et, et] [(0, 1), (1, 1)]) [.s 24, .s 27],
  ⟨29, true, .build [zz, zz, et, et, ff, ff, ff, et, et, et, et, et, et] [(0, 1), (1, 1), (2, 1), (3, 1), (4, 1), (5, 1), (6, 1), (7, 1), (8, 3), (11, 2)], [.s 4, .s 6, .s 8, .s 10, .s 12, .s 14, .s 16, .s 18, .s 21, .s 28], none, [21], []⟩,
  ⟨500, false, .store 13, [.s 2, .s 29], none, [2, 21], [2]⟩])
 .ret))
def F22 : AFun where
  n := 15
  res := [.cell 2 (some 13), .tmp 3]
  code := (.seq (.reg [
 p 2 (.zero [zz, zz, et, et, ff, ff, ff, et, et, et, et, et, et]) [],
 p 3 .mv [.c ff]])
 (.seq (.seq (.reg [
 p 4 .mv [.s 0],
 p 5 (.bin .lss) [.s 4, .c (.int .i64 1)],
 p 6 .mv [.s 5],
  ⟨7, true, .mv, [.s 0], (some (6, false)), [], []⟩,
  ⟨8, true, .bin .gtr, [.s 7, .c (.int .i64 4611686018427387904)], (some (6, false)), [], []⟩,
 p 9 .pick [.s 6, .c (.bool true), .s 8]])
 (.cond (.s 9) (.seq (.reg [
 p 10 (.build [zz, zz, et, et, ff, ff, ff, et, et, et, et, et, et] []) [],
  ⟨500, false, .store 13, [.s 2, .s 10], none, [], []⟩,
 p 3 .mv [.c ff]])
 .ret)
 .skip))
 (.seq (.reg [
 p 11 .mv [.s 0],
 p 12 (.call 42) [],
 p 13 (.call 43) [.c zz],
 p 14 (.build [zz, zz, et, et, ff, ff, ff, et, et, et, et, et, et] [(1, 1), (8, 3), (11, 2)]) [.s 11, .s 12, .s 13],
  ⟨501, false, .store 13, [.s 2, .s 14], none, [], []⟩,
 p 3 .mv [.c (.bool true)]])
 .ret)))
def F30 : AFun where
  n := 14
  res := [.cell 2 (some 13), .tmp 3]
  code := (.seq (.reg [
 p 2 (.zero [zz, zz, et, et, ff, ff, ff, et, et, et, et, et, et]) [],
 p 3 .mv [.c ff]])
 (.seq (.seq (.reg [
 p 4 .mv [.s 0],
 p 5 (.bin .lss) [.s 4, .c (.int .i64 1)],
 p 6 .mv [.s 5],
  ⟨7, true, .mv, [.s 0], (some (6, false)), [], []⟩,
  ⟨8, true, .bin .gtr, [.s 7, .c (.int .i64 4611686018427387904)], (some (6, false)), [], []⟩,
 p 9 .pick [.s 6, .c (.bool true), .s 8]])
 (.cond (.s 9) (.seq (.reg [
 p 10 (.build [zz, zz, et, et, ff, ff, ff, et, et, et, et, et, et] []) [],
  ⟨500, false, .store 13, [.s 2, .s 10], none, [], []⟩,
 p 3 .mv [.c ff]])
 .ret)
 .skip))
 (.seq (.reg [
 p 11 .mv [.s 0],
 p 12 (.call 56) [],
 p 13 (.build [zz, zz, et, et, ff, ff, ff, et, et, et, et, et, et] [(1, 1), (8, 3)]) [.s 11, .s 12],
  ⟨501, false, .store 13, [.s 2, .s 13], none, [], []⟩,
 p 3 .mv [.c (.bool true)]])
 .ret)))
def F32 : AFun where
  n := 27
  res := [.tmp 4]
  code := (.seq (.reg [
 p 4 .mv [.c ff]])
 (.seq (.seq (.reg [
 p 6 .mv [.s 0],
 p 7 .len [.s 6],
 p 8 .mv [.s 1],
 p 9 .len [.s 8],
 p 10 (.bin .neq) [.s 7, .s 9]])
 (.cond (.s 10) (.seq (.reg [
 p 4 .mv [.c ff]])
 .ret)
 .skip))
 (.seq (.seq (.reg [
 p 5 .mv [.c zz]])
 (.block 0 (.loop (.seq (.seq (.reg [
 p 11 .mv [.s 5],
 p 12 .mv [.s 0],
 p 13 .len [.s 12],
 p 14 (.bin .lss) [.s 11, .s 13]])
 (.cond (.s 14) .skip
 (.exit 0)))
 (.seq (.block 1 (.seq (.drw [
 p 17 .mv [.s 0],
 p 18 .mv [.s 5],
 p 19 (.iaddr 6) [.s 17, .s 18],
 p 20 (.load (some 6)) [.s 19],
 p 21 .mv [.s 1],
 p 22 .mv [.s 5],
 p 23 (.iaddr 6) [.s 21, .s 22],
 p 24 (.load (some 6)) [.s 23],
 p 25 (.call 55) [.s 20, .s 24],
 p 26 (.un .not) [.s 25]])
 (.cond (.s 26) (.seq (.reg [
 p 4 .mv [.c ff]])
 .ret)
 .skip)))
 (.reg [
 p 15 .mv [.s 5],
 p 16 (.bin .add) [.s 15, .c (.int .i64 1)],
 p 5 .mv [.s 16]]))))))
 (.seq (.reg [
 p 4 .mv [.c (.bool true)]])
 .ret))))
def F33 : AFun where
  n := 26
  res := [.tmp 4]
  code := (.seq (.reg [
 p 4 .mv [.c ff]])
 (.seq (.seq (.reg [
 p 6 .mv [.s 0],
 p 7 .len [.s 6],
 p 8 .mv [.s 1],
 p 9 .len [.s 8],
 p 10 (.bin .neq) [.s 7, .s 9]])
 (.cond (.s 10) (.seq (.reg [
 p 4 .mv [.c ff]])
 .ret)
 .skip))
 (.seq (.seq (.reg [
 p 5 .mv [.c zz]])
 (.block 0 (.loop (.seq (.seq (.reg [
 p 11 .mv [.s 5],
 p 12 .mv [.s 0],
 p 13 .len [.s 12],
 p 14 (.bin .lss) [.s 11, .s 13]])
 (.cond (.s 14) .skip
 (.exit 0)))
 (.seq (.block 1 (.seq (.drw [
 p 17 .mv [.s 0],
 p 18 .mv [.s 5],
 p 19 (.iaddr 5) [.s 17, .s 18],
 p 20 (.load (some 5)) [.s 19],
 p 21 .mv [.s 1],
 p 22 .mv [.s 5],
 p 23 (.iaddr 5) [.s 21, .s 22],
 p 24 (.load (some 5)) [.s 23],
 p 25 (.eqv true [some .i64, some .i64, some .i64, some .i64, some .i64] true) [.s 20, .s 24]])
 (.cond (.s 25) (.seq (.reg [
 p 4 .mv [.c ff]])
 .ret)
 .skip)))
 (.reg [
 p 15 .mv [.s 5],
 p 16 (.bin .add) [.s 15, .c (.int .i64 1)],
 p 5 .mv [.s 16]]))))))
 (.seq (.reg [
 p 4 .mv [.c (.bool true)]])
 .ret))))
def F34 : AFun where
  n := 27
  res := [.tmp 4]
  code := (.seq (.reg [
 p 4 .mv [.c ff]])
 (.seq (.seq (.reg [
 p 6 .mv [.s 0],
 p 7 .len [.s 6],
 p 8 .mv [.s 1],
 p 9 .len [.s 8],
 p 10 (.bin .neq) [.s 7, .s 9]])
 (.cond (.s 10) (.seq (.reg [
 p 4 .mv [.c ff]])
 .ret)
 .skip))
 (.seq (.seq (.reg [
 p 5 .mv [.c zz]])
 (.block 0 (.loop (.seq (.seq (.reg [
 p 11 .mv [.s 5],
 p 12 .mv [.s 0],
 p 13 .len [.s 12],
 p 14 (.bin .lss) [.s 11, .s 13]])
 (.cond (.s 14) .skip
 (.exit 0)))
 (.seq (.block 1 (.seq (.drw [
 p 17 .mv [.s 0],
 p 18 .mv [.s 5],
 p 19 (.iaddr 28) [.s 17, .s 18],
 p 20 (.load (some 28)) [.s 19],
 p 21 .mv [.s 1],
 p 22 .mv [.s 5],
 p 23 (.iaddr 28) [.s 21, .s 22],
 p 24 (.load (some 28)) [.s 23],
 p 25 (.call 60) [.s 20, .s 24],
 p 26 (.un .not) [.s 25]])
 (.cond (.s 26) (.seq (.reg [
 p 4 .mv [.c ff]])
 .ret)
 .skip)))
 (.reg [
 p 15 .mv [.s 5],
 p 16 (.bin .add) [.s 15, .c (.int .i64 1)],
 p 5 .mv [.s 16]]))))))
 (.seq (.reg [
 p 4 .mv [.c (.bool true)]])
 .ret))))
def F35 : AFun where
  n := 40
  res := [.tmp 4]
  code := (.seq (.reg [
 p 2 (.box 3) [.s 0],
 p 3 (.box 3) [.s 1],
 p 4 .mv [.c ff]])
 (.seq (.seq (.reg [
 p 6 (.faddr 2) [.s 2],
 p 7 (.load none) [.s 6],
 p 8 .len [.s 7],
 p 9 (.faddr 2) [.s 3],
 p 10 (.load none) [.s 9],
 p 11 .len [.s 10],
 p 12 (.bin .neq) [.s 8, .s 11],
 p 13 .mv [.s 12],
  ⟨14, true, .faddr 0, [.s 2], (some (13, false)), [], []⟩,
  ⟨15, true, .load (some 2), [.s 14], (some (13, false)), [], []⟩,
  ⟨16, true, .faddr 0, [.s 3], (some (13, false)), [], []⟩,
  ⟨17, true, .load (some 2), [.s 16], (some (13, false)), [], []⟩,
  ⟨18, true, .call 61, [.s 15, .s 17], (some (13, false)), [], []⟩,
  ⟨19, true, .un .not, [.s 18], (some (13, false)), [], []⟩,
 p 20 .pick [.s 13, .c (.bool true), .s 19]])
 (.cond (.s 20) (.seq (.reg [
 p 4 .mv [.c ff]])
 .ret)
 .skip))
 (.seq (.seq (.reg [
 p 5 .mv [.c zz]])
 (.block 0 (.loop (.seq (.seq (.reg [
 p 21 .mv [.s 5],
 p 22 (.faddr 2) [.s 2],
 p 23 (.load none) [.s 22],
 p 24 .len [.s 23],
 p 25 (.bin .lss) [.s 21, .s 24]])
 (.cond (.s 25) .skip
 (.exit 0)))
 (.seq (.block 1 (.seq (.drw [
 p 28 (.faddr 2) [.s 2],
  ⟨29, true, .load none, [.s 28], none, [2], []⟩,
 p 30 .mv [.s 5],
 p 31 (.iaddr 10) [.s 29, .s 30],
 p 32 (.load (some 10)) [.s 31],
 p 33 (.faddr 2) [.s 3],
  ⟨34, true, .load none, [.s 33], none, [3], []⟩,
 p 35 .mv [.s 5],
 p 36 (.iaddr 10) [.s 34, .s 35],
 p 37 (.load (some 10)) [.s 36],
 p 38 (.call 62) [.s 32, .s 37],
 p 39 (.un .not) [.s 38]])
 (.cond (.s 39) (.seq (.reg [
 p 4 .mv [.c ff]])
 .ret)
 .skip)))
 (.reg [
 p 26 .mv [.s 5],
 p 27 (.bin .add) [.s 26, .c (.int .i64 1)],
 p 5 .mv [.s 27]]))))))
 (.seq (.reg [
 p 4 .mv [.c (.bool true)]])
 .ret))))
def F36 : AFun where
  n := 39
  res := [.tmp 4]
  code := (.seq (.reg [
 p 2 (.box 2) [.s 0],
 p 3 (.box 2) [.s 1],
 p 4 .mv [.c ff]])
 (.seq (.seq (.reg [
 p 6 (.faddr 1) [.s 2],
 p 7 (.load none) [.s 6],
 p 8 .len [.s 7],
 p 9 (.faddr 1) [.s 3],
 p 10 (.load none) [.s 9],
 p 11 .len [.s 10],
 p 12 (.bin .neq) [.s 8, .s 11],
 p 13 .mv [.s 12],
  ⟨14, true, .faddr 0, [.s 2], (some (13, false)), [], []⟩,
  ⟨15, true, .load none, [.s 14], (some (13, false)), [], []⟩,
  ⟨16, true, .faddr 0, [.s 3], (some (13, false)), [], []⟩,
  ⟨17, true, .load none, [.s 16], (some (13, false)), [], []⟩,
  ⟨18, true, .call 63, [.s 15, .s 17], (some (13, false)), [], []⟩,
  ⟨19, true, .un .not, [.s 18], (some (13, false)), [], []⟩,
 p 20 .pick [.s 13, .c (.bool true), .s 19]])
 (.cond (.s 20) (.seq (.reg [
 p 4 .mv [.c ff]])
 .ret)
 .skip))
 (.seq (.seq (.reg [
 p 5 .mv [.c zz]])
 (.block 0 (.loop (.seq (.seq (.reg [
 p 21 .mv [.s 5],
 p 22 (.faddr 1) [.s 2],
 p 23 (.load none) [.s 22],
 p 24 .len [.s 23],
 p 25 (.bin .lss) [.s 21, .s 24]])
 (.cond (.s 25) .skip
 (.exit 0)))
 (.seq (.block 1 (.seq (.drw [
 p 28 (.faddr 1) [.s 2],
  ⟨29, true, .load none, [.s 28], none, [2], []⟩,
 p 30 .mv [.s 5],
 p 31 (.iaddr 1) [.s 29, .s 30],
 p 32 (.load none) [.s 31],
 p 33 (.faddr 1) [.s 3],
  ⟨34, true, .load none, [.s 33], none, [3], []⟩,
 p 35 .mv [.s 5],
 p 36 (.iaddr 1) [.s 34, .s 35],
 p 37 (.load none) [.s 36],
 p 38 (.eqv false [none] true) [.s 32, .s 37]])
 (.cond (.s 38) (.seq (.reg [
 p 4 .mv [.c ff]])
 .ret)
 .skip)))
 (.reg [
 p 26 .mv [.s 5],
 p 27 (.bin .add) [.s 26, .c (.int .i64 1)],
 p 5 .mv [.s 27]]))))))
 (.seq (.reg [
 p 4 .mv [.c (.bool true)]])
 .ret))))
def F37 : AFun where
  n := 32
  res := [.cell 2 (some 3)]
  code := (.seq (.reg [
 p 1 (.box 3) [.s 0],
 p 2 (.zero [et, et, et]) []])
 (.seq (.reg [
 p 5 (.faddr 0) [.s 1],
 p 6 (.faddr 0) [.s 5],
 p 7 (.load none) [.s 6],
 p 8 (.faddr 0) [.s 1],
 p 9 (.faddr 1) [.s 8],
 p 10 (.load none) [.s 9],
 p 11 (.build [et, et] [(0, 1), (1, 1)]) [.s 7, .s 10],
 p 12 (.build [et, et, et] [(0, 2)]) [.s 11],
 p 3 (.zero [et, et, et]) [],
  ⟨500, false, .store 3, [.s 3, .s 12], none, [], []⟩])
 (.seq (.seq (.reg [
 p 4 .mv [.c zz]])
 (.block 0 (.loop (.seq (.seq (.reg [
 p 13 .mv [.s 4],
 p 14 (.faddr 2) [.s 1],
 p 15 (.load none) [.s 14],
 p 16 .len [.s 15],
 p 17 (.bin .lss) [.s 13, .s 16]])
 (.cond (.s 17) .skip
 (.exit 0)))
 (.seq (.block 1 (.drw [
 p 20 (.faddr 2) [.s 3],
  ⟨21, true, .load none, [.s 20], none, [3], []⟩,
 p 22 (.faddr 2) [.s 1],
  ⟨23, true, .load none, [.s 22], none, [1], []⟩,
 p 24 .mv [.s 4],
 p 25 (.iaddr 10) [.s 23, .s 24],
 p 26 (.load (some 10)) [.s 25],
 p 27 (.call 64) [.s 26],
  ⟨28, true, .buildSlL 10 [zz, zz, zz, zz, zz, se, se, (.int .u32 0), se, (.int .u32 0)] 1 [0], [.s 27], none, [27], [27]⟩,
  ⟨29, true, .app 10 128 [zz, zz, zz, zz, zz, se, se, (.int .u32 0), se, (.int .u32 0)], [.s 21, .s 28], none, [28, 29], [28, 29]⟩,
 p 30 (.faddr 2) [.s 3],
  ⟨501, false, .store 1, [.s 30, .s 29], none, [3, 28, 29], [3]⟩]))
 (.reg [
 p 18 .mv [.s 4],
 p 19 (.bin .add) [.s 18, .c (.int .i64 1)],
 p 4 .mv [.s 19]]))))))
 (.seq (.reg [
 p 31 (.load (some 3)) [.s 3],
  ⟨502, false, .store 3, [.s 2, .s 31], none, [], []⟩])
 .ret))))
def F42 : AFun where
  n := 4
  res := [.cell 0 (some 3)]
  code := (.seq (.reg [
 p 0 (.zero [et, et, et]) []])
 (.seq (.drw [
 p 1 (.call 70) [.c (.int .i64 12)],
 p 2 (.mkslice [zz, zz, zz, zz, zz, se, se, (.int .u32 0), se, (.int .u32 0)] 128) [.c (.int .i64 12), .c (.int .i64 12)],
  ⟨3, true, .build [et, et, et] [(0, 2), (2, 1)], [.s 1, .s 2], none, [1, 2], []⟩,
  ⟨500, false, .store 3, [.s 0, .s 3], none, [0, 1, 2], [0]⟩])
 .ret))
def F43 : AFun where
  n := 11
  res := [.cell 2 (some 2)]
  code := (.seq (.reg [
 p 2 (.zero [et, et]) []])
 (.seq (.reg [
 p 3 .mv [.s 0],
 p 4 .most [.s 3, .c zz],
 p 5 .least [.s 4, .c (.int .i64 65536)],
 p 0 .mv [.s 5]])
 (.seq (.drw [
 p 6 .mv [.s 0],
 p 7 (.mkslice [zz] 8) [.s 6, .s 6],
 p 8 .mv [.s 0],
 p 9 (.mkslice [ff] 1) [.s 8, .s 8],
  ⟨10, true, .build [et, et] [(0, 1), (1, 1)], [.s 7, .s 9], none, [7, 9], []⟩,
  ⟨500, false, .store 2, [.s 2, .s 10], none, [2, 7, 9], [2]⟩])
 .ret)))
def F45 : AFun where
  n := 51
  res := [.cell 2 (some 13), .tmp 3]
  code := (.seq (.reg [
 p 1 (.box 13) [.s 0],
 p 2 (.zero [zz, zz, et, et, ff, ff, ff, et, et, et, et, et, et]) [],
 p 3 .mv [.c et]])
 (.seq (.reg [
 p 5 (.load (some 13)) [.s 1],
 p 6 (.call 82) [.s 5],
 p 7 (.build [zz, zz, et, et, ff, ff, ff, et, et, et, et, et, et, et] [(0, 13)]) [.s 6],
 p 8 (.box 14) [.s 7],
 p 4 .mv [.s 8]])
 (.seq (.seq (.reg [
 p 9 .mv [.s 4],
 p 10 .nilck [.s 9],
 p 11 (.faddr 0) [.s 10],
 p 12 (.faddr 4) [.s 11],
 p 13 (.load none) [.s 12],
 p 14 .mv [.s 13],
  ⟨15, true, .mv, [.s 4], (some (14, true)), [], []⟩,
  ⟨16, true, .nilck, [.s 15], (some (14, true)), [], []⟩,
  ⟨17, true, .faddr 0, [.s 16], (some (14, true)), [], []⟩,
  ⟨18, true, .faddr 5, [.s 17], (some (14, true)), [], []⟩,
  ⟨19, true, .load none, [.s 18], (some (14, true)), [], []⟩,
  ⟨20, true, .un .not, [.s 19], (some (14, true)), [], []⟩,
 p 21 .pick [.s 14, .s 20, .c ff]])
 (.cond (.s 21) (.seq (.reg [
 p 22 .mv [.s 4],
 p 23 (.call 83) [.s 22]])
 (.seq (.reg [
 p 24 .mv [.s 4],
 p 25 (.call 84) [.s 24]])
 (.seq (.reg [
 p 26 .mv [.s 4],
 p 27 (.call 85) [.s 26]])
 (.reg [
 p 28 .mv [.s 4],
 p 29 (.call 86) [.s 28]]))))
 .skip))
 (.seq (.reg [
 p 30 .mv [.s 4],
 p 31 .nilck [.s 30],
 p 32 (.faddr 0) [.s 31],
 p 33 (.faddr 6) [.s 32],
  ⟨500, false, .store 1, [.s 33, .c ff], none, [], []⟩])
 (.seq (.reg [
 p 34 .mv [.s 4],
 p 35 .nilck [.s 34],
 p 36 (.faddr 0) [.s 35],
 p 37 (.faddr 0) [.s 36],
 p 38 (.load none) [.s 37],
 p 39 (.bin .add) [.s 38, .c (.int .i64 1)],
 p 40 .nilck [.s 34],
 p 41 (.faddr 0) [.s 40],
 p 42 (.faddr 0) [.s 41],
  ⟨501, false, .store 1, [.s 42, .s 39], none, [], []⟩])
 (.seq (.drw [
 p 43 .mv [.s 4],
 p 44 .nilck [.s 43],
 p 45 (.faddr 0) [.s 44],
  ⟨46, true, .load (some 13), [.s 45], none, [8], []⟩,
 p 47 .mv [.s 4],
 p 48 .nilck [.s 47],
 p 49 (.faddr 13) [.s 48],
  ⟨50, true, .load none, [.s 49], none, [8], []⟩,
  ⟨502, false, .store 13, [.s 2, .s 46], none, [2, 6, 23, 25, 27, 29], [2]⟩,
 p 3 .mv [.s 50]])
 .ret))))))
def F47 : AFun where
  n := 98
  res := [.cell 6 (some 13), .tmp 7, .tmp 8]
  code := (.seq (.reg [
 p 3 (.box 13) [.s 0],
 p 6 (.zero [zz, zz, et, et, ff, ff, ff, et, et, et, et, et, et]) [],
 p 7 .mv [.c et],
 p 8 .mv [.c zz]])
 (.seq (.reg [
 p 12 (.load (some 13)) [.s 3],
 p 13 (.call 82) [.s 12],
  ⟨500, false, .store 13, [.s 3, .s 13], none, [], []⟩])
 (.seq (.block 0 (.seq (.reg [
 p 15 (.faddr 4) [.s 3],
 p 16 (.load none) [.s 15],
 p 17 (.un .not) [.s 16],
 p 14 .mv [.s 17]])
 (.cond (.s 14) (.seq (.reg [
 p 18 (.load (some 13)) [.s 3],
  ⟨501, false, .store 13, [.s 6, .s 18], none, [], []⟩,
 p 7 .mv [.c et],
 p 8 .mv [.c (.int .i64 8)]])
 .ret)
 (.seq (.reg [
 p 20 (.faddr 5) [.s 3],
 p 21 (.load none) [.s 20],
 p 19 .mv [.s 21]])
 (.cond (.s 19) (.seq (.reg [
 p 22 (.load (some 13)) [.s 3],
  ⟨502, false, .store 13, [.s 6, .s 22], none, [], []⟩,
 p 7 .mv [.c et],
 p 8 .mv [.c (.int .i64 17)]])
 .ret)
 (.seq (.reg [
 p 24 .mv [.s 1],
 p 25 (.bin .lss) [.s 24, .c zz],
 p 26 .mv [.s 25],
  ⟨27, true, .mv, [.s 1], (some (26, false)), [], []⟩,
  ⟨28, true, .faddr 2, [.s 3], (some (26, false)), [], []⟩,
  ⟨29, true, .load none, [.s 28], (some (26, false)), [], []⟩,
  ⟨30, true, .len, [.s 29], (some (26, false)), [], []⟩,
  ⟨31, true, .bin .geq, [.s 27, .s 30], (some (26, false)), [], []⟩,
 p 32 .pick [.s 26, .c (.bool true), .s 31],
 p 23 .mv [.s 32]])
 (.cond (.s 23) (.seq (.reg [
 p 33 (.load (some 13)) [.s 3],
  ⟨503, false, .store 13, [.s 6, .s 33], none, [], []⟩,
 p 7 .mv [.c et],
 p 8 .mv [.c (.int .i64 3)]])
 .ret)
 (.seq (.reg [
 p 35 .mv [.s 1],
 p 36 (.faddr 11) [.s 3],
 p 37 (.faddr 1) [.s 36],
 p 38 (.load none) [.s 37],
 p 39 .len [.s 38],
 p 40 (.bin .lss) [.s 35, .s 39],
 p 41 .mv [.s 40],
  ⟨42, true, .faddr 11, [.s 3], (some (41, true)), [], []⟩,
  ⟨43, true, .faddr 1, [.s 42], (some (41, true)), [], []⟩,
  ⟨44, true, .load none, [.s 43], (some (41, true)), [], []⟩,
  ⟨45, true, .mv, [.s 1], (some (41, true)), [], []⟩,
  ⟨46, true, .iaddr 1, [.s 44, .s 45], (some (41, true)), [], []⟩,
  ⟨47, true, .load none, [.s 46], (some (41, true)), [], []⟩,
 p 48 .pick [.s 41, .s 47, .c ff],
 p 34 .mv [.s 48]])
 (.cond (.s 34) (.seq (.reg [
 p 49 (.load (some 13)) [.s 3],
  ⟨504, false, .store 13, [.s 6, .s 49], none, [], []⟩,
 p 7 .mv [.c et],
 p 8 .mv [.c (.int .i64 6)]])
 .ret)
 .skip)))))))))
 (.seq (.reg [
 p 9 .mv [.c et]])
 (.seq (.reg [
 p 51 .mv [.s 1],
 p 52 (.call 89) [.s 3, .s 51],
 p 50 .mv [.s 52],
 p 53 (.extract 0) [.s 50],
 p 54 (.extract 1) [.s 50],
 p 10 .mv [.s 53],
 p 11 .mv [.s 54]])
 (.seq (.seq (.reg [
 p 55 .mv [.s 11]])
 (.cond (.s 55) (.seq (.seq (.reg [
 p 56 (.faddr 7) [.s 3],
 p 57 (.load none) [.s 56],
 p 58 .mv [.s 10],
 p 59 (.iaddr 28) [.s 57, .s 58],
 p 60 (.faddr 3) [.s 59],
 p 61 (.load none) [.s 60],
 p 62 (.bin .neq) [.s 61, .c (.int .i64 2)]])
 (.cond (.s 62) (.seq (.reg [
 p 63 (.load (some 13)) [.s 3],
  ⟨505, false, .store 13, [.s 6, .s 63], none, [], []⟩,
 p 7 .mv [.c et],
 p 8 .mv [.c (.int .i64 5)]])
 .ret)
 .skip))
 (.seq (.reg [
 p 64 .mv [.s 9],
 p 65 (.faddr 0) [.s 3],
 p 66 (.load none) [.s 65],
 p 67 .mv [.s 1],
 p 68 (.build [zz, zz, zz, zz, zz, zz] [(0, 1), (1, 1), (2, 1)]) [.s 66, .c (.int .i64 13), .s 67],
 p 69 (.buildSl 6 [zz, zz, zz, zz, zz, zz] 1 [0]) [.s 68],
 p 70 (.app 6 48 [zz, zz, zz, zz, zz, zz]) [.s 64, .s 69],
 p 9 .mv [.s 70]])
 (.reg [
 p 71 (.faddr 7) [.s 3],
 p 72 (.load none) [.s 71],
 p 73 .mv [.s 10],
 p 74 .mv [.s 10],
 p 75 (.bin .add) [.s 74, .c (.int .i64 1)],
 p 76 (.call 90) [.s 72, .s 73, .s 75],
 p 77 (.faddr 7) [.s 3],
  ⟨506, false, .store 1, [.s 77, .s 76], none, [], []⟩])))
 .skip))
 (.seq (.drw [
 p 78 (.faddr 7) [.s 3],
  ⟨79, true, .load none, [.s 78], none, [3], []⟩,
 p 80 .mv [.s 10],
 p 81 .mv [.s 1],
 p 82 (.faddr 0) [.s 3],
  ⟨83, true, .load none, [.s 82], none, [3], []⟩,
 p 84 .mv [.s 2],
 p 85 (.call 92) [.s 81, .s 83, .s 84],
  ⟨86, true, .buildSlL 28 [zz, zz, zz, zz, zz, zz, zz, zz, zz, zz, zz, zz, zz, se, ff, zz, zz, zz, zz, zz, zz, zz, zz, zz, se, ff, se, ff] 1 [0], [.s 85], none, [85], [85]⟩,
  ⟨87, true, .call 91, [.s 79, .s 80, .s 86], none, [13, 52, 76, 87, 86], [13, 52, 76, 87, 86]⟩,
 p 88 (.faddr 7) [.s 3],
  ⟨507, false, .store 1, [.s 88, .s 87], none, [3, 87], [3]⟩])
 (.seq (.drw [
  ⟨89, true, .load (some 13), [.s 3], none, [3], []⟩,
 p 90 .mv [.s 9],
 p 91 (.faddr 0) [.s 3],
  ⟨92, true, .load none, [.s 91], none, [3], []⟩,
 p 93 .mv [.s 1],
 p 94 .mv [.s 2],
 p 95 (.build [zz, zz, zz, zz, zz, zz] [(0, 1), (1, 1), (2, 1), (4, 1)]) [.s 92, .c (.int .i64 1), .s 93, .s 94],
 p 96 (.buildSl 6 [zz, zz, zz, zz, zz, zz] 1 [0]) [.s 95],
  ⟨97, true, .app 6 48 [zz, zz, zz, zz, zz, zz], [.s 90, .s 96], none, [69, 70, 96], [69, 70]⟩,
  ⟨508, false, .store 13, [.s 6, .s 89], none, [6, 13, 52, 76, 87], [6]⟩,
 p 7 .mv [.s 97],
 p 8 .mv [.c zz]])
 .ret))))))))
def F55 : AFun where
  n := 45
  res := [.tmp 4]
  code := (.seq (.reg [
 p 2 (.box 6) [.s 0],
 p 3 (.box 6) [.s 1],
 p 4 .mv [.c ff]])
 (.seq (.reg [
 p 5 (.faddr 0) [.s 2],
 p 6 (.load none) [.s 5],
 p 7 (.faddr 0) [.s 3],
 p 8 (.load none) [.s 7],
 p 9 (.bin .eql) [.s 6, .s 8],
 p 10 .mv [.s 9],
  ⟨11, true, .faddr 1, [.s 2], (some (10, true)), [], []⟩,
  ⟨12, true, .load none, [.s 11], (some (10, true)), [], []⟩,
  ⟨13, true, .faddr 1, [.s 3], (some (10, true)), [], []⟩,
  ⟨14, true, .load none, [.s 13], (some (10, true)), [], []⟩,
  ⟨15, true, .bin .eql, [.s 12, .s 14], (some (10, true)), [], []⟩,
 p 16 .pick [.s 10, .s 15, .c ff],
 p 17 .mv [.s 16],
  ⟨18, true, .faddr 2, [.s 2], (some (17, true)), [], []⟩,
  ⟨19, true, .load none, [.s 18], (some (17, true)), [], []⟩,
  ⟨20, true, .faddr 2, [.s 3], (some (17, true)), [], []⟩,
  ⟨21, true, .load none, [.s 20], (some (17, true)), [], []⟩,
  ⟨22, true, .bin .eql, [.s 19, .s 21], (some (17, true)), [], []⟩,
 p 23 .pick [.s 17, .s 22, .c ff],
 p 24 .mv [.s 23],
  ⟨25, true, .faddr 3, [.s 2], (some (24, true)), [], []⟩,
  ⟨26, true, .load none, [.s 25], (some (24, true)), [], []⟩,
  ⟨27, true, .faddr 3, [.s 3], (some (24, true)), [], []⟩,
  ⟨28, true, .load none, [.s 27], (some (24, true)), [], []⟩,
  ⟨29, true, .call 98, [.s 26, .s 28], (some (24, true)), [], []⟩,
 p 30 .pick [.s 24, .s 29, .c ff],
 p 31 .mv [.s 30],
  ⟨32, true, .faddr 4, [.s 2], (some (31, true)), [], []⟩,
  ⟨33, true, .load none, [.s 32], (some (31, true)), [], []⟩,
  ⟨34, true, .faddr 4, [.s 3], (some (31, true)), [], []⟩,
  ⟨35, true, .load none, [.s 34], (some (31, true)), [], []⟩,
  ⟨36, true, .call 98, [.s 33, .s 35], (some (31, true)), [], []⟩,
 p 37 .pick [.s 31, .s 36, .c ff],
 p 38 .mv [.s 37],
  ⟨39, true, .faddr 5, [.s 2], (some (38, true)), [], []⟩,
  ⟨40, true, .load none, [.s 39], (some (38, true)), [], []⟩,
  ⟨41, true, .faddr 5, [.s 3], (some (38, true)), [], []⟩,
  ⟨42, true, .load none, [.s 41], (some (38, true)), [], []⟩,
  ⟨43, true, .call 98, [.s 40, .s 42], (some (38, true)), [], []⟩,
 p 44 .pick [.s 38, .s 43, .c ff],
 p 4 .mv [.s 44]])
 .ret))
def F56 : AFun where
  n := 4
  res := [.cell 0 (some 3)]
  code := (.seq (.reg [
 p 0 (.zero [et, et, et]) []])
 (.seq (.drw [
 p 1 (.call 99) [.c (.int .i64 12)],
 p 2 (.mkslice [zz, zz, zz, zz, zz, se, se, (.int .u32 0), se, (.int .u32 0)] 128) [.c (.int .i64 12), .c (.int .i64 12)],
  ⟨3, true, .build [et, et, et] [(0, 2), (2, 1)], [.s 1, .s 2], none, [1, 2], []⟩,
  ⟨500, false, .store 3, [.s 0, .s 3], none, [0, 1, 2], [0]⟩])
 .ret))
def F60 : AFun where
  n := 59
  res := [.tmp 4]
  code := (.seq (.reg [
 p 2 (.box 28) [.s 0],
 p 3 (.box 28) [.s 1],
 p 4 .mv [.c ff]])
 (.seq (.reg [
 p 5 (.faddr 0) [.s 2],
 p 6 (.load none) [.s 5],
 p 7 (.faddr 0) [.s 3],
 p 8 (.load none) [.s 7],
 p 9 (.bin .eql) [.s 6, .s 8],
 p 10 .mv [.s 9],
  ⟨11, true, .faddr 1, [.s 2], (some (10, true)), [], []⟩,
  ⟨12, true, .load none, [.s 11], (some (10, true)), [], []⟩,
  ⟨13, true, .faddr 1, [.s 3], (some (10, true)), [], []⟩,
  ⟨14, true, .load none, [.s 13], (some (10, true)), [], []⟩,
  ⟨15, true, .bin .eql, [.s 12, .s 14], (some (10, true)), [], []⟩,
 p 16 .pick [.s 10, .s 15, .c ff],
 p 17 .mv [.s 16],
  ⟨18, true, .faddr 2, [.s 2], (some (17, true)), [], []⟩,
  ⟨19, true, .load none, [.s 18], (some (17, true)), [], []⟩,
  ⟨20, true, .faddr 2, [.s 3], (some (17, true)), [], []⟩,
  ⟨21, true, .load none, [.s 20], (some (17, true)), [], []⟩,
  ⟨22, true, .bin .eql, [.s 19, .s 21], (some (17, true)), [], []⟩,
 p 23 .pick [.s 17, .s 22, .c ff],
 p 24 .mv [.s 23],
  ⟨25, true, .faddr 3, [.s 2], (some (24, true)), [], []⟩,
  ⟨26, true, .load none, [.s 25], (some (24, true)), [], []⟩,
  ⟨27, true, .faddr 3, [.s 3], (some (24, true)), [], []⟩,
  ⟨28, true, .load none, [.s 27], (some (24, true)), [], []⟩,
  ⟨29, true, .bin .eql, [.s 26, .s 28], (some (24, true)), [], []⟩,
 p 30 .pick [.s 24, .s 29, .c ff],
 p 31 .mv [.s 30],
  ⟨32, true, .faddr 27, [.s 2], (some (31, true)), [], []⟩,
  ⟨33, true, .load none, [.s 32], (some (31, true)), [], []⟩,
  ⟨34, true, .faddr 27, [.s 3], (some (31, true)), [], []⟩,
  ⟨35, true, .load none, [.s 34], (some (31, true)), [], []⟩,
  ⟨36, true, .eqv false [none] false, [.s 33, .s 35], (some (31, true)), [], []⟩,
 p 37 .pick [.s 31, .s 36, .c ff],
 p 38 .mv [.s 37],
  ⟨39, true, .faddr 4, [.s 2], (some (38, true)), [], []⟩,
  ⟨40, true, .load (some 11), [.s 39], (some (38, true)), [], []⟩,
  ⟨41, true, .faddr 4, [.s 3], (some (38, true)), [], []⟩,
  ⟨42, true, .load (some 11), [.s 41], (some (38, true)), [], []⟩,
  ⟨43, true, .call 114, [.s 40, .s 42], (some (38, true)), [], []⟩,
 p 44 .pick [.s 38, .s 43, .c ff],
 p 45 .mv [.s 44],
  ⟨46, true, .faddr 15, [.s 2], (some (45, true)), [], []⟩,
  ⟨47, true, .load (some 11), [.s 46], (some (45, true)), [], []⟩,
  ⟨48, true, .faddr 15, [.s 3], (some (45, true)), [], []⟩,
  ⟨49, true, .load (some 11), [.s 48], (some (45, true)), [], []⟩,
  ⟨50, true, .call 114, [.s 47, .s 49], (some (45, true)), [], []⟩,
 p 51 .pick [.s 45, .s 50, .c ff],
 p 52 .mv [.s 51],
  ⟨53, true, .faddr 26, [.s 2], (some (52, true)), [], []⟩,
  ⟨54, true, .load none, [.s 53], (some (52, true)), [], []⟩,
  ⟨55, true, .faddr 26, [.s 3], (some (52, true)), [], []⟩,
  ⟨56, true, .load none, [.s 55], (some (52, true)), [], []⟩,
  ⟨57, true, .call 63, [.s 54, .s 56], (some (52, true)), [], []⟩,
 p 58 .pick [.s 52, .s 57, .c ff],
 p 4 .mv [.s 58]])
 .ret))
def F61 : AFun where
  n := 59
  res := [.tmp 4]
  code := (.seq (.reg [
 p 2 (.box 2) [.s 0],
 p 3 (.box 2) [.s 1],
 p 4 .mv [.c ff]])
 (.seq (.seq (.reg [
 p 7 (.faddr 0) [.s 2],
 p 8 (.load none) [.s 7],
 p 9 .len [.s 8],
 p 10 (.faddr 0) [.s 3],
 p 11 (.load none) [.s 10],
 p 12 .len [.s 11],
 p 13 (.bin .neq) [.s 9, .s 12],
 p 14 .mv [.s 13],
  ⟨15, true, .faddr 1, [.s 2], (some (14, false)), [], []⟩,
  ⟨16, true, .load none, [.s 15], (some (14, false)), [], []⟩,
  ⟨17, true, .len, [.s 16], (some (14, false)), [], []⟩,
  ⟨18, true, .faddr 1, [.s 3], (some (14, false)), [], []⟩,
  ⟨19, true, .load none, [.s 18], (some (14, false)), [], []⟩,
  ⟨20, true, .len, [.s 19], (some (14, false)), [], []⟩,
  ⟨21, true, .bin .neq, [.s 17, .s 20], (some (14, false)), [], []⟩,
 p 22 .pick [.s 14, .c (.bool true), .s 21]])
 (.cond (.s 22) (.seq (.reg [
 p 4 .mv [.c ff]])
 .ret)
 .skip))
 (.seq (.seq (.reg [
 p 5 .mv [.c zz]])
 (.block 0 (.loop (.seq (.seq (.reg [
 p 23 .mv [.s 5],
 p 24 (.faddr 0) [.s 2],
 p 25 (.load none) [.s 24],
 p 26 .len [.s 25],
 p 27 (.bin .lss) [.s 23, .s 26]])
 (.cond (.s 27) .skip
 (.exit 0)))
 (.seq (.block 1 (.seq (.drw [
 p 30 (.faddr 0) [.s 2],
  ⟨31, true, .load none, [.s 30], none, [2], []⟩,
 p 32 .mv [.s 5],
 p 33 (.iaddr 1) [.s 31, .s 32],
 p 34 (.load none) [.s 33],
 p 35 (.faddr 0) [.s 3],
  ⟨36, true, .load none, [.s 35], none, [3], []⟩,
 p 37 .mv [.s 5],
 p 38 (.iaddr 1) [.s 36, .s 37],
 p 39 (.load none) [.s 38],
 p 40 (.bin .neq) [.s 34, .s 39]])
 (.cond (.s 40) (.seq (.reg [
 p 4 .mv [.c ff]])
 .ret)
 .skip)))
 (.reg [
 p 28 .mv [.s 5],
 p 29 (.bin .add) [.s 28, .c (.int .i64 1)],
 p 5 .mv [.s 29]]))))))
 (.seq (.seq (.reg [
 p 6 .mv [.c zz]])
 (.block 2 (.loop (.seq (.seq (.reg [
 p 41 .mv [.s 6],
 p 42 (.faddr 1) [.s 2],
 p 43 (.load none) [.s 42],
 p 44 .len [.s 43],
 p 45 (.bin .lss) [.s 41, .s 44]])
 (.cond (.s 45) .skip
 (.exit 2)))
 (.seq (.block 3 (.seq (.drw [
 p 48 (.faddr 1) [.s 2],
  ⟨49, true, .load none, [.s 48], none, [2], []⟩,
 p 50 .mv [.s 6],
 p 51 (.iaddr 1) [.s 49, .s 50],
 p 52 (.load none) [.s 51],
 p 53 (.faddr 1) [.s 3],
  ⟨54, true, .load none, [.s 53], none, [3], []⟩,
 p 55 .mv [.s 6],
 p 56 (.iaddr 1) [.s 54, .s 55],
 p 57 (.load none) [.s 56],
 p 58 (.eqv false [none] true) [.s 52, .s 57]])
 (.cond (.s 58) (.seq (.reg [
 p 4 .mv [.c ff]])
 .ret)
 .skip)))
 (.reg [
 p 46 .mv [.s 6],
 p 47 (.bin .add) [.s 46, .c (.int .i64 1)],
 p 6 .mv [.s 47]]))))))
 (.seq (.reg [
 p 4 .mv [.c (.bool true)]])
 .ret)))))
def F62 : AFun where
  n := 45
  res := [.tmp 4]
  code := (.seq (.reg [
 p 2 (.box 10) [.s 0],
 p 3 (.box 10) [.s 1],
 p 4 .mv [.c ff]])
 (.seq (.reg [
 p 5 (.faddr 0) [.s 2],
 p 6 (.load none) [.s 5],
 p 7 (.faddr 0) [.s 3],
 p 8 (.load none) [.s 7],
 p 9 (.bin .eql) [.s 6, .s 8],
 p 10 .mv [.s 9],
  ⟨11, true, .faddr 1, [.s 2], (some (10, true)), [], []⟩,
  ⟨12, true, .load (some 2), [.s 11], (some (10, true)), [], []⟩,
  ⟨13, true, .faddr 1, [.s 3], (some (10, true)), [], []⟩,
  ⟨14, true, .load (some 2), [.s 13], (some (10, true)), [], []⟩,
  ⟨15, true, .eqv true [some .i64, some .i64] false, [.s 12, .s 14], (some (10, true)), [], []⟩,
 p 16 .pick [.s 10, .s 15, .c ff],
 p 17 .mv [.s 16],
  ⟨18, true, .faddr 3, [.s 2], (some (17, true)), [], []⟩,
  ⟨19, true, .load (some 2), [.s 18], (some (17, true)), [], []⟩,
  ⟨20, true, .faddr 3, [.s 3], (some (17, true)), [], []⟩,
  ⟨21, true, .load (some 2), [.s 20], (some (17, true)), [], []⟩,
  ⟨22, true, .eqv true [some .i64, some .i64] false, [.s 19, .s 21], (some (17, true)), [], []⟩,
 p 23 .pick [.s 17, .s 22, .c ff],
 p 24 .mv [.s 23],
  ⟨25, true, .faddr 9, [.s 2], (some (24, true)), [], []⟩,
  ⟨26, true, .load none, [.s 25], (some (24, true)), [], []⟩,
  ⟨27, true, .faddr 9, [.s 3], (some (24, true)), [], []⟩,
  ⟨28, true, .load none, [.s 27], (some (24, true)), [], []⟩,
  ⟨29, true, .bin .eql, [.s 26, .s 28], (some (24, true)), [], []⟩,
 p 30 .pick [.s 24, .s 29, .c ff],
 p 31 .mv [.s 30],
  ⟨32, true, .faddr 5, [.s 2], (some (31, true)), [], []⟩,
  ⟨33, true, .load (some 2), [.s 32], (some (31, true)), [], []⟩,
  ⟨34, true, .faddr 5, [.s 3], (some (31, true)), [], []⟩,
  ⟨35, true, .load (some 2), [.s 34], (some (31, true)), [], []⟩,
  ⟨36, true, .call 115, [.s 33, .s 35], (some (31, true)), [], []⟩,
 p 37 .pick [.s 31, .s 36, .c ff],
 p 38 .mv [.s 37],
  ⟨39, true, .faddr 7, [.s 2], (some (38, true)), [], []⟩,
  ⟨40, true, .load (some 2), [.s 39], (some (38, true)), [], []⟩,
  ⟨41, true, .faddr 7, [.s 3], (some (38, true)), [], []⟩,
  ⟨42, true, .load (some 2), [.s 41], (some (38, true)), [], []⟩,
  ⟨43, true, .call 116, [.s 40, .s 42], (some (38, true)), [], []⟩,
 p 44 .pick [.s 38, .s 43, .c ff],
 p 4 .mv [.s 44]])
 .ret))
def F63 : AFun where
  n := 26
  res := [.tmp 4]
  code := (.seq (.reg [
 p 4 .mv [.c ff]])
 (.seq (.seq (.reg [
 p 6 .mv [.s 0],
 p 7 .len [.s 6],
 p 8 .mv [.s 1],
 p 9 .len [.s 8],
 p 10 (.bin .neq) [.s 7, .s 9]])
 (.cond (.s 10) (.seq (.reg [
 p 4 .mv [.c ff]])
 .ret)
 .skip))
 (.seq (.seq (.reg [
 p 5 .mv [.c zz]])
 (.block 0 (.loop (.seq (.seq (.reg [
 p 11 .mv [.s 5],
 p 12 .mv [.s 0],
 p 13 .len [.s 12],
 p 14 (.bin .lss) [.s 11, .s 13]])
 (.cond (.s 14) .skip
 (.exit 0)))
 (.seq (.block 1 (.seq (.drw [
 p 17 .mv [.s 0],
 p 18 .mv [.s 5],
 p 19 (.iaddr 1) [.s 17, .s 18],
 p 20 (.load none) [.s 19],
 p 21 .mv [.s 1],
 p 22 .mv [.s 5],
 p 23 (.iaddr 1) [.s 21, .s 22],
 p 24 (.load none) [.s 23],
 p 25 (.bin .neq) [.s 20, .s 24]])
 (.cond (.s 25) (.seq (.reg [
 p 4 .mv [.c ff]])
 .ret)
 .skip)))
 (.reg [
 p 15 .mv [.s 5],
 p 16 (.bin .add) [.s 15, .c (.int .i64 1)],
 p 5 .mv [.s 16]]))))))
 (.seq (.reg [
 p 4 .mv [.c (.bool true)]])
 .ret))))
def F64 : AFun where
  n := 16
  res := [.cell 2 (some 10)]
  code := (.seq (.reg [
 p 1 (.box 10) [.s 0],
 p 2 (.zero [zz, zz, zz, zz, zz, et, et, (.int .u32 0), et, (.int .u32 0)]) []])
 (.seq (.reg [
 p 3 (.faddr 0) [.s 1],
 p 4 (.load none) [.s 3],
 p 5 (.faddr 1) [.s 1],
 p 6 (.load (some 2)) [.s 5],
 p 7 (.faddr 3) [.s 1],
 p 8 (.load (some 2)) [.s 7],
 p 9 (.faddr 5) [.s 1],
 p 10 (.load (some 2)) [.s 9],
 p 11 (.faddr 7) [.s 1],
 p 12 (.load (some 2)) [.s 11],
 p 13 (.faddr 9) [.s 1],
 p 14 (.load none) [.s 13],
 p 15 (.build [zz, zz, zz, zz, zz, et, et, (.int .u32 0), et, (.int .u32 0)] [(0, 1), (1, 2), (3, 2), (5, 2), (7, 2), (9, 1)]) [.s 4, .s 6, .s 8, .s 10, .s 12, .s 14],
  ⟨500, false, .store 10, [.s 2, .s 15], none, [], []⟩])
 .ret))
def F70 : AFun where
  n := 11
  res := [.cell 2 (some 2)]
  code := (.seq (.reg [
 p 2 (.zero [et, et]) []])
 (.seq (.reg [
 p 3 .mv [.s 0],
 p 4 .most [.s 3, .c zz],
 p 5 .least [.s 4, .c (.int .i64 64)],
 p 0 .mv [.s 5]])
 (.seq (.drw [
 p 6 .mv [.s 0],
 p 7 (.mkslice [zz] 8) [.s 6, .s 6],
 p 8 .mv [.s 0],
 p 9 (.mkslice [ff] 1) [.s 8, .s 8],
  ⟨10, true, .build [et, et] [(0, 1), (1, 1)], [.s 7, .s 9], none, [7, 9], []⟩,
  ⟨500, false, .store 2, [.s 2, .s 10], none, [2, 7, 9], [2]⟩])
 .ret)))
def F82 : AFun where
  n := 99
  res := [.cell 2 (some 13)]
  code := (.seq (.reg [
 p 1 (.box 13) [.s 0],
 p 2 (.zero [zz, zz, et, et, ff, ff, ff, et, et, et, et, et, et]) []])
 (.seq (.drw [
 p 7 (.faddr 2) [.s 1],
  ⟨8, true, .load none, [.s 7], none, [1], []⟩,
  ⟨9, true, .call 132, [.s 8], none, [9, 12, 15, 92, 96, 38, 41, 44, 72, 76, 79], [9, 12, 15, 92, 96, 38, 41, 44, 72, 76, 79]⟩,
 p 10 (.faddr 3) [.s 1],
  ⟨11, true, .load none, [.s 10], none, [1], []⟩,
  ⟨12, true, .call 133, [.s 11], none, [9, 12, 15, 92, 96, 38, 41, 44, 72, 76, 79], [9, 12, 15, 92, 96, 38, 41, 44, 72, 76, 79]⟩,
 p 13 (.faddr 7) [.s 1],
  ⟨14, true, .load none, [.s 13], none, [1], []⟩,
  ⟨15, true, .call 134, [.s 14], none, [9, 12, 15, 92, 96, 38, 41, 44, 72, 76, 79], [9, 12, 15, 92, 96, 38, 41, 44, 72, 76, 79]⟩,
 p 16 (.faddr 2) [.s 1],
  ⟨500, false, .store 1, [.s 16, .s 9], none, [1, 9], [1]⟩,
 p 17 (.faddr 3) [.s 1],
  ⟨501, false, .store 1, [.s 17, .s 12], none, [1, 12], [1]⟩,
 p 18 (.faddr 7) [.s 1],
  ⟨502, false, .store 1, [.s 18, .s 15], none, [1, 15], [1]⟩])
 (.seq (.seq (.reg [
 p 19 (.faddr 2) [.s 1],
 p 20 (.load none) [.s 19],
 p 21 .len [.s 20],
 p 22 .mv [.c zz]])
 (.block 0 (.loop (.seq (.reg [
 p 23 (.bin .lss) [.s 22, .s 21]])
 (.seq (.cond (.s 23) .skip
 (.exit 0))
 (.seq (.block 1 (.seq (.reg [
 p 24 .mv [.s 22],
 p 25 (.iaddr 6) [.s 20, .s 22],
 p 26 (.load (some 6)) [.s 25],
 p 4 (.zero [zz, zz, zz, et, et, et]) [],
 p 3 .mv [.s 24],
  ⟨503, false, .store 6, [.s 4, .s 26], none, [], []⟩])
 (.drw [
 p 27 (.faddr 2) [.s 1],
  ⟨28, true, .load none, [.s 27], none, [1], []⟩,
 p 29 .mv [.s 3],
 p 30 (.faddr 2) [.s 1],
  ⟨31, true, .load none, [.s 30], none, [1], []⟩,
 p 32 .mv [.s 3],
 p 33 (.faddr 2) [.s 1],
  ⟨34, true, .load none, [.s 33], none, [1], []⟩,
 p 35 .mv [.s 3],
 p 36 (.faddr 3) [.s 4],
  ⟨37, true, .load none, [.s 36], none, [4], []⟩,
  ⟨38, true, .call 135, [.s 37], none, [38, 41, 44, 72, 76, 79], [38, 41, 44, 72, 76, 79]⟩,
 p 39 (.faddr 4) [.s 4],
  ⟨40, true, .load none, [.s 39], none, [4], []⟩,
  ⟨41, true, .call 135, [.s 40], none, [38, 41, 44, 72, 76, 79], [38, 41, 44, 72, 76, 79]⟩,
 p 42 (.faddr 5) [.s 4],
  ⟨43, true, .load none, [.s 42], none, [4], []⟩,
  ⟨44, true, .call 135, [.s 43], none, [38, 41, 44, 72, 76, 79], [38, 41, 44, 72, 76, 79]⟩,
  ⟨45, true, .iaddr 6, [.s 28, .s 29], none, [9, 12, 15, 92, 96], []⟩,
 p 46 (.faddr 3) [.s 45],
  ⟨504, false, .store 1, [.s 46, .s 38], none, [9, 12, 15, 92, 96, 38], [9, 12, 15, 92, 96, 38]⟩,
  ⟨47, true, .iaddr 6, [.s 31, .s 32], none, [9, 12, 15, 92, 96], []⟩,
 p 48 (.faddr 4) [.s 47],
  ⟨505, false, .store 1, [.s 48, .s 41], none, [9, 12, 15, 92, 96, 41], [9, 12, 15, 92, 96, 41]⟩,
  ⟨49, true, .iaddr 6, [.s 34, .s 35], none, [9, 12, 15, 92, 96], []⟩,
 p 50 (.faddr 5) [.s 49],
  ⟨506, false, .store 1, [.s 50, .s 44], none, [9, 12, 15, 92, 96, 44], [9, 12, 15, 92, 96, 44]⟩])))
 (.reg [
 p 51 (.bin .add) [.s 22, .c (.int .i64 1)],
 p 22 .mv [.s 51]])))))))
 (.seq (.seq (.reg [
 p 52 (.faddr 7) [.s 1],
 p 53 (.load none) [.s 52],
 p 54 .len [.s 53],
 p 55 .mv [.c zz]])
 (.block 2 (.loop (.seq (.reg [
 p 56 (.bin .lss) [.s 55, .s 54]])
 (.seq (.cond (.s 56) .skip
 (.exit 2))
 (.seq (.block 3 (.seq (.reg [
 p 57 .mv [.s 55],
 p 58 (.iaddr 28) [.s 53, .s 55],
 p 59 (.load (some 28)) [.s 58],
 p 6 (.zero [zz, zz, zz, zz, zz, zz, zz, zz, zz, zz, zz, zz, zz, et, ff, zz, zz, zz, zz, zz, zz, zz, zz, zz, et, ff, et, ff]) [],
 p 5 .mv [.s 57],
  ⟨507, false, .store 28, [.s 6, .s 59], none, [], []⟩])
 (.drw [
 p 60 (.faddr 7) [.s 1],
  ⟨61, true, .load none, [.s 60], none, [1], []⟩,
 p 62 .mv [.s 5],
 p 63 (.faddr 7) [.s 1],
  ⟨64, true, .load none, [.s 63], none, [1], []⟩,
 p 65 .mv [.s 5],
 p 66 (.faddr 7) [.s 1],
  ⟨67, true, .load none, [.s 66], none, [1], []⟩,
 p 68 .mv [.s 5],
 p 69 (.faddr 4) [.s 6],
 p 70 (.faddr 9) [.s 69],
  ⟨71, true, .load none, [.s 70], none, [6], []⟩,
  ⟨72, true, .call 136, [.s 71], none, [38, 41, 44, 72, 76, 79], [38, 41, 44, 72, 76, 79]⟩,
 p 73 (.faddr 15) [.s 6],
 p 74 (.faddr 9) [.s 73],
  ⟨75, true, .load none, [.s 74], none, [6], []⟩,
  ⟨76, true, .call 136, [.s 75], none, [38, 41, 44, 72, 76, 79], [38, 41, 44, 72, 76, 79]⟩,
 p 77 (.faddr 26) [.s 6],
  ⟨78, true, .load none, [.s 77], none, [6], []⟩,
  ⟨79, true, .call 137, [.s 78], none, [38, 41, 44, 72, 76, 79], [38, 41, 44, 72, 76, 79]⟩,
  ⟨80, true, .iaddr 28, [.s 61, .s 62], none, [9, 12, 15, 92, 96], []⟩,
 p 81 (.faddr 4) [.s 80],
 p 82 (.faddr 9) [.s 81],
  ⟨508, false, .store 1, [.s 82, .s 72], none, [9, 12, 15, 92, 96, 72], [9, 12, 15, 92, 96, 72]⟩,
  ⟨83, true, .iaddr 28, [.s 64, .s 65], none, [9, 12, 15, 92, 96], []⟩,
 p 84 (.faddr 15) [.s 83],
 p 85 (.faddr 9) [.s 84],
  ⟨509, false, .store 1, [.s 85, .s 76], none, [9, 12, 15, 92, 96, 76], [9, 12, 15, 92, 96, 76]⟩,
  ⟨86, true, .iaddr 28, [.s 67, .s 68], none, [9, 12, 15, 92, 96], []⟩,
 p 87 (.faddr 26) [.s 86],
  ⟨510, false, .store 1, [.s 87, .s 79], none, [9, 12, 15, 92, 96, 79], [9, 12, 15, 92, 96, 79]⟩])))
 (.reg [
 p 88 (.bin .add) [.s 55, .c (.int .i64 1)],
 p 55 .mv [.s 88]])))))))
 (.seq (.reg [
 p 89 (.faddr 8) [.s 1],
 p 90 (.load (some 3)) [.s 89],
 p 91 (.build [zz, zz, zz, zz, zz, et, et, (.int .u32 0), et, (.int .u32 0)] []) [],
 p 92 (.call 127) [.s 90, .c (.int .i64 (-1)), .s 91],
 p 93 (.faddr 8) [.s 1],
  ⟨511, false, .store 3, [.s 93, .s 92], none, [], []⟩])
 (.seq (.reg [
 p 94 (.faddr 11) [.s 1],
 p 95 (.load (some 2)) [.s 94],
 p 96 (.call 138) [.s 95, .c (.int .i64 (-1))],
 p 97 (.faddr 11) [.s 1],
  ⟨512, false, .store 2, [.s 97, .s 96], none, [], []⟩])
 (.seq (.reg [
 p 98 (.load (some 13)) [.s 1],
  ⟨513, false, .store 13, [.s 2, .s 98], none, [], []⟩])
 .ret)))))))
def F83 : AFun where
  n := 57
  res := []
  code := (.seq (.reg [
 p 2 .mv [.c et]])
 (.seq (.seq (.reg [
 p 5 .mv [.s 0],
 p 6 .nilck [.s 5],
 p 7 (.faddr 0) [.s 6],
 p 8 (.faddr 7) [.s 7],
 p 9 (.load none) [.s 8],
 p 10 .len [.s 9],
 p 11 .mv [.c zz]])
 (.block 0 (.loop (.seq (.reg [
 p 12 (.bin .lss) [.s 11, .s 10]])
 (.seq (.cond (.s 12) .skip
 (.exit 0))
 (.seq (.block 1 (.seq (.reg [
 p 13 (.iaddr 28) [.s 9, .s 11],
 p 14 (.load (some 28)) [.s 13],
 p 4 (.zero [zz, zz, zz, zz, zz, zz, zz, zz, zz, zz, zz, zz, zz, et, ff, zz, zz, zz, zz, zz, zz, zz, zz, zz, et, ff, et, ff]) [],
  ⟨500, false, .store 28, [.s 4, .s 14], none, [], []⟩])
 (.block 2 (.seq (.drw [
 p 19 .mv [.s 0],
 p 20 .nilck [.s 19],
 p 21 (.faddr 0) [.s 20],
 p 22 (.faddr 0) [.s 21],
  ⟨23, true, .load none, [.s 22], none, [0], []⟩,
 p 24 (.faddr 1) [.s 4],
  ⟨25, true, .load none, [.s 24], none, [4], []⟩,
 p 26 (.bin .sub) [.s 23, .s 25],
 p 27 .mv [.s 0],
 p 28 .nilck [.s 27],
 p 29 (.faddr 0) [.s 28],
 p 30 (.faddr 2) [.s 29],
  ⟨31, true, .load none, [.s 30], none, [0], []⟩,
 p 32 (.faddr 0) [.s 4],
  ⟨33, true, .load none, [.s 32], none, [4], []⟩,
  ⟨34, true, .iaddr 6, [.s 31, .s 33], none, [0, 50, 17, 40, 41], []⟩,
 p 35 (.faddr 2) [.s 34],
  ⟨36, true, .load none, [.s 35], none, [0, 50, 17, 40, 41], []⟩,
 p 37 (.bin .neq) [.s 26, .s 36],
 p 18 .mv [.s 37]])
 (.cond (.s 18) (.reg [
 p 38 .mv [.s 2],
 p 39 (.load (some 28)) [.s 4],
 p 40 (.buildSl 28 [zz, zz, zz, zz, zz, zz, zz, zz, zz, zz, zz, zz, zz, se, ff, zz, zz, zz, zz, zz, zz, zz, zz, zz, se, ff, se, ff] 1 [0]) [.s 39],
 p 41 (.app 28 272 [zz, zz, zz, zz, zz, zz, zz, zz, zz, zz, zz, zz, zz, se, ff, zz, zz, zz, zz, zz, zz, zz, zz, zz, se, ff, se, ff]) [.s 38, .s 40],
 p 2 .mv [.s 41]])
 (.seq (.reg [
 p 43 (.faddr 3) [.s 4],
 p 44 (.load none) [.s 43],
 p 45 (.bin .eql) [.s 44, .c (.int .i64 2)],
 p 42 .mv [.s 45]])
 (.cond (.s 42) (.reg [
 p 46 .mv [.s 0],
 p 47 (.faddr 0) [.s 4],
 p 48 (.load none) [.s 47],
 p 49 (.build [zz, zz, zz, zz, zz, zz] [(1, 1), (2, 1)]) [.c (.int .i64 13), .s 48],
 p 50 (.call 139) [.s 46, .s 49]])
 (.reg [
 p 15 .mv [.s 0],
 p 16 (.load (some 28)) [.s 4],
 p 17 (.call 140) [.s 15, .s 16]]))))))))
 (.reg [
 p 51 (.bin .add) [.s 11, .c (.int .i64 1)],
 p 11 .mv [.s 51]])))))))
 (.reg [
 p 52 .mv [.s 0],
 p 53 .mv [.s 2],
 p 54 .nilck [.s 52],
 p 55 (.faddr 0) [.s 54],
 p 56 (.faddr 7) [.s 55],
  ⟨501, false, .store 1, [.s 56, .s 53], none, [], []⟩])))
def F84 : AFun where
  n := 48
  res := []
  code := (.seq (.reg [
 p 4 .mv [.s 0],
 p 5 .nilck [.s 4],
 p 6 (.faddr 0) [.s 5],
 p 7 (.faddr 7) [.s 6],
 p 8 (.load none) [.s 7],
 p 9 .len [.s 8],
 p 10 .mv [.c zz]])
 (.block 0 (.loop (.seq (.reg [
 p 11 (.bin .lss) [.s 10, .s 9]])
 (.seq (.cond (.s 11) .skip
 (.exit 0))
 (.seq (.block 1 (.seq (.reg [
 p 12 .mv [.s 10],
 p 13 (.iaddr 28) [.s 8, .s 10],
 p 14 (.load (some 28)) [.s 13],
 p 3 (.zero [zz, zz, zz, zz, zz, zz, zz, zz, zz, zz, zz, zz, zz, et, ff, zz, zz, zz, zz, zz, zz, zz, zz, zz, et, ff, et, ff]) [],
 p 2 .mv [.s 12],
  ⟨500, false, .store 28, [.s 3, .s 14], none, [], []⟩])
 (.seq (.drw [
 p 15 (.faddr 3) [.s 3],
  ⟨16, true, .load none, [.s 15], none, [3], []⟩,
 p 17 (.bin .neq) [.s 16, .c (.int .i64 2)],
 p 18 .mv [.s 17],
  ⟨19, true, .mv, [.s 0], (some (18, true)), [], []⟩,
  ⟨20, true, .nilck, [.s 19], (some (18, true)), [], []⟩,
  ⟨21, true, .faddr 0, [.s 20], (some (18, true)), [], []⟩,
  ⟨22, true, .faddr 0, [.s 21], (some (18, true)), [], []⟩,
  ⟨23, true, .load none, [.s 22], (some (18, true)), [0], []⟩,
  ⟨24, true, .faddr 1, [.s 3], (some (18, true)), [], []⟩,
  ⟨25, true, .load none, [.s 24], (some (18, true)), [3], []⟩,
  ⟨26, true, .bin .sub, [.s 23, .s 25], (some (18, true)), [], []⟩,
  ⟨27, true, .mv, [.s 0], (some (18, true)), [], []⟩,
  ⟨28, true, .nilck, [.s 27], (some (18, true)), [], []⟩,
  ⟨29, true, .faddr 0, [.s 28], (some (18, true)), [], []⟩,
  ⟨30, true, .faddr 3, [.s 29], (some (18, true)), [], []⟩,
  ⟨31, true, .load none, [.s 30], (some (18, true)), [0], []⟩,
  ⟨32, true, .faddr 0, [.s 3], (some (18, true)), [], []⟩,
  ⟨33, true, .load none, [.s 32], (some (18, true)), [3], []⟩,
  ⟨34, true, .iaddr 5, [.s 31, .s 33], (some (18, true)), [0], []⟩,
  ⟨35, true, .faddr 4, [.s 34], (some (18, true)), [], []⟩,
  ⟨36, true, .load none, [.s 35], (some (18, true)), [0], []⟩,
  ⟨37, true, .bin .geq, [.s 26, .s 36], (some (18, true)), [], []⟩,
 p 38 .pick [.s 18, .s 37, .c ff]])
 (.cond (.s 38) (.reg [
 p 39 .mv [.s 0],
 p 40 .nilck [.s 39],
 p 41 (.faddr 0) [.s 40],
 p 42 (.faddr 7) [.s 41],
 p 43 (.load none) [.s 42],
 p 44 .mv [.s 2],
 p 45 (.iaddr 28) [.s 43, .s 44],
 p 46 (.faddr 27) [.s 45],
  ⟨501, false, .store 1, [.s 46, .c (.bool true)], none, [], []⟩])
 .skip))))
 (.reg [
 p 47 (.bin .add) [.s 10, .c (.int .i64 1)],
 p 10 .mv [.s 47]])))))))
def F85 : AFun where
  n := 85
  res := []
  code := (.seq (.reg [
 p 13 .mv [.s 0],
 p 14 .nilck [.s 13],
 p 15 (.faddr 0) [.s 14],
 p 16 (.faddr 8) [.s 15],
 p 17 (.load (some 3)) [.s 16],
 p 18 (.call 141) [.s 17],
 p 12 .mv [.s 18],
 p 19 (.extract 0) [.s 12],
 p 20 (.extract 1) [.s 12],
 p 21 (.extract 2) [.s 12],
 p 2 (.zero [et, et, et]) [],
  ⟨500, false, .store 3, [.s 2, .s 19], none, [], []⟩,
 p 3 .mv [.s 20],
 p 4 .mv [.s 21]])
 (.seq (.reg [
 p 22 .mv [.s 0],
 p 23 (.load (some 3)) [.s 2],
 p 24 .nilck [.s 22],
 p 25 (.faddr 0) [.s 24],
 p 26 (.faddr 8) [.s 25],
  ⟨501, false, .store 3, [.s 26, .s 23], none, [], []⟩])
 (.seq (.reg [
 p 27 .mv [.s 3],
 p 28 .len [.s 27],
 p 29 .mv [.c zz]])
 (.block 0 (.loop (.seq (.reg [
 p 30 (.bin .lss) [.s 29, .s 28]])
 (.seq (.cond (.s 30) .skip
 (.exit 0))
 (.seq (.block 1 (.seq (.reg [
 p 31 .mv [.s 29],
 p 32 (.iaddr 1) [.s 27, .s 29],
 p 33 (.load none) [.s 32],
 p 5 .mv [.s 31],
 p 6 .mv [.s 33]])
 (.seq (.reg [
 p 34 .mv [.s 0],
 p 35 .mv [.s 6],
 p 36 (.build [zz, zz, zz, zz, zz, zz] [(1, 1), (3, 1)]) [.c (.int .i64 11), .s 35],
 p 37 (.call 139) [.s 34, .s 36]])
 (.seq (.seq (.reg [
 p 38 .mv [.s 4],
 p 39 .mv [.s 5],
 p 40 (.iaddr 1) [.s 38, .s 39],
 p 41 (.load none) [.s 40],
 p 42 .len [.s 41],
 p 43 .mv [.c zz]])
 (.block 2 (.loop (.seq (.reg [
 p 44 (.bin .lss) [.s 43, .s 42]])
 (.seq (.cond (.s 44) .skip
 (.exit 2))
 (.seq (.block 3 (.seq (.reg [
 p 45 (.iaddr 1) [.s 41, .s 43],
 p 46 (.load none) [.s 45],
 p 8 .mv [.s 46]])
 (.reg [
 p 47 .mv [.s 0],
 p 48 .mv [.s 8],
 p 49 (.build [zz, zz, zz, zz, zz, zz] [(1, 1), (3, 1), (5, 1)]) [.c (.int .i64 12), .s 48, .c (.int .i64 15)],
 p 50 (.call 139) [.s 47, .s 49]])))
 (.reg [
 p 51 (.bin .add) [.s 43, .c (.int .i64 1)],
 p 43 .mv [.s 51]])))))))
 (.seq (.reg [
 p 52 .mv [.s 0],
 p 53 .nilck [.s 52],
 p 54 (.faddr 0) [.s 53],
 p 55 (.faddr 8) [.s 54],
 p 56 (.load (some 3)) [.s 55],
 p 57 (.call 143) [.s 56],
 p 58 .mv [.s 6],
 p 59 (.call 142) [.s 57, .s 58],
 p 9 .mv [.s 59]])
 (.seq (.reg [
 p 60 .mv [.s 9],
 p 61 (.bin .geq) [.s 60, .c zz]])
 (.cond (.s 61) (.seq (.reg [
 p 62 .mv [.s 0],
 p 63 .nilck [.s 62],
 p 64 (.faddr 0) [.s 63],
 p 65 (.faddr 7) [.s 64],
 p 66 (.load none) [.s 65],
 p 67 .len [.s 66],
 p 68 .mv [.c zz]])
 (.block 4 (.loop (.seq (.reg [
 p 69 (.bin .lss) [.s 68, .s 67]])
 (.seq (.cond (.s 69) .skip
 (.exit 4))
 (.seq (.block 5 (.seq (.reg [
 p 70 .mv [.s 68],
 p 71 (.iaddr 28) [.s 66, .s 68],
 p 72 (.load (some 28)) [.s 71],
 p 11 (.zero [zz, zz, zz, zz, zz, zz, zz, zz, zz, zz, zz, zz, zz, et, ff, zz, zz, zz, zz, zz, zz, zz, zz, zz, et, ff, et, ff]) [],
 p 10 .mv [.s 70],
  ⟨502, false, .store 28, [.s 11, .s 72], none, [], []⟩])
 (.drw [
 p 73 .mv [.s 0],
 p 74 .nilck [.s 73],
 p 75 (.faddr 0) [.s 74],
 p 76 (.faddr 7) [.s 75],
  ⟨77, true, .load none, [.s 76], none, [0], []⟩,
 p 78 .mv [.s 10],
  ⟨79, true, .load (some 28), [.s 11], none, [11], []⟩,
 p 80 .mv [.s 9],
  ⟨81, true, .call 144, [.s 79, .s 80], none, [0, 18, 37, 50, 81], []⟩,
  ⟨82, true, .iaddr 28, [.s 77, .s 78], none, [0, 18, 37, 50, 81], []⟩,
  ⟨503, false, .store 28, [.s 82, .s 81], none, [0, 18, 37, 50, 81], [0, 18, 37, 50, 81]⟩])))
 (.reg [
 p 83 (.bin .add) [.s 68, .c (.int .i64 1)],
 p 68 .mv [.s 83]])))))))
 .skip)))))))
 (.reg [
 p 84 (.bin .add) [.s 29, .c (.int .i64 1)],
 p 29 .mv [.s 84]])))))))))
def F86 : AFun where
  n := 82
  res := []
  code := (.seq (.drw [
 p 8 .mv [.s 0],
 p 9 .nilck [.s 8],
 p 10 (.faddr 0) [.s 9],
 p 11 (.faddr 7) [.s 10],
  ⟨12, true, .load none, [.s 11], none, [0], []⟩,
 p 13 .mv [.s 0],
 p 14 .nilck [.s 13],
 p 15 (.faddr 0) [.s 14],
 p 16 (.faddr 2) [.s 15],
  ⟨17, true, .load none, [.s 16], none, [0], []⟩,
 p 18 .len [.s 17],
 p 19 .mv [.s 0],
 p 20 .nilck [.s 19],
 p 21 (.faddr 0) [.s 20],
  ⟨22, true, .load (some 13), [.s 21], none, [0], []⟩,
  ⟨23, true, .call 146, [.s 22], none, [0, 50, 59, 78], []⟩,
  ⟨24, true, .call 145, [.s 12, .s 18, .s 23], none, [0, 50, 59, 78, 23], []⟩,
 p 7 .mv [.s 24],
 p 25 (.extract 0) [.s 7],
 p 26 (.extract 1) [.s 7],
 p 2 .mv [.s 25],
 p 3 .mv [.s 26]])
 (.seq (.seq (.reg [
 p 27 .mv [.s 0],
 p 28 .nilck [.s 27],
 p 29 (.faddr 0) [.s 28],
 p 30 (.faddr 5) [.s 29],
 p 31 (.load none) [.s 30],
 p 32 .mv [.s 31],
  ⟨33, true, .mv, [.s 3], (some (32, false)), [], []⟩,
  ⟨34, true, .un .not, [.s 33], (some (32, false)), [], []⟩,
 p 35 .pick [.s 32, .c (.bool true), .s 34]])
 (.cond (.s 35) .ret
 .skip))
 (.seq (.reg [
 p 36 .mv [.s 0],
 p 37 .nilck [.s 36],
 p 38 (.faddr 0) [.s 37],
 p 39 (.faddr 7) [.s 38],
 p 40 (.load none) [.s 39],
 p 41 .mv [.s 2],
 p 42 (.iaddr 28) [.s 40, .s 41],
 p 43 (.load (some 28)) [.s 42],
 p 44 .mv [.s 0],
 p 45 (.mkfn 147 1) [.s 44],
 p 4 (.zero [zz, zz, zz, zz, zz, zz, zz, zz, zz, zz, zz, zz, zz, et, ff, zz, zz, zz, zz, zz, zz, zz, zz, zz, et, ff, et, ff]) [],
  ⟨500, false, .store 28, [.s 4, .s 43], none, [], []⟩,
 p 5 .mv [.s 45]])
 (.seq (.reg [
 p 46 .mv [.s 0],
 p 47 (.faddr 0) [.s 4],
 p 48 (.load none) [.s 47],
 p 49 (.build [zz, zz, zz, zz, zz, zz] [(1, 1), (2, 1)]) [.c (.int .i64 2), .s 48],
 p 50 (.call 139) [.s 46, .s 49]])
 (.seq (.seq (.reg [
 p 51 .mv [.s 0],
 p 52 .nilck [.s 51],
 p 53 (.faddr 0) [.s 52],
 p 54 (.faddr 6) [.s 53],
 p 55 (.load none) [.s 54]])
 (.cond (.s 55) (.reg [
 p 56 .mv [.s 0],
 p 57 (.mkfn 148 1) [.s 56],
 p 5 .mv [.s 57]])
 .skip))
 (.seq (.reg [
 p 58 .mv [.s 5],
 p 59 .callv [.s 58, .s 4],
 p 6 .mv [.s 59]])
 (.seq (.drw [
 p 60 .mv [.s 0],
 p 61 .nilck [.s 60],
 p 62 (.faddr 0) [.s 61],
 p 63 (.faddr 7) [.s 62],
  ⟨64, true, .load none, [.s 63], none, [0], []⟩,
 p 65 .mv [.s 2],
  ⟨66, true, .load (some 28), [.s 4], none, [4], []⟩,
  ⟨67, true, .iaddr 28, [.s 64, .s 65], none, [0, 50, 59, 78], []⟩,
  ⟨501, false, .store 28, [.s 67, .s 66], none, [0, 50, 59, 78], [0, 50, 59, 78]⟩])
 (.seq (.reg [
 p 68 .mv [.s 6]])
 (.cond (.s 68) (.reg [
 p 69 .mv [.s 0],
 p 70 .mv [.s 0],
 p 71 .nilck [.s 70],
 p 72 (.faddr 0) [.s 71],
 p 73 (.faddr 7) [.s 72],
 p 74 (.load none) [.s 73],
 p 75 .mv [.s 2],
 p 76 .mv [.s 2],
 p 77 (.bin .add) [.s 76, .c (.int .i64 1)],
 p 78 (.call 90) [.s 74, .s 75, .s 77],
 p 79 .nilck [.s 69],
 p 80 (.faddr 0) [.s 79],
 p 81 (.faddr 7) [.s 80],
  ⟨502, false, .store 1, [.s 81, .s 78], none, [], []⟩])
 .skip)))))))))
def F87 : AFun where
  n := 32
  res := [.cell 2 (some 3)]
  code := (.seq (.reg [
 p 1 (.box 3) [.s 0],
 p 2 (.zero [et, et, et]) []])
 (.seq (.drw [
 p 6 (.faddr 0) [.s 1],
 p 7 (.faddr 0) [.s 6],
  ⟨8, true, .load none, [.s 7], none, [1], []⟩,
 p 9 (.call 137) [.s 8],
 p 10 (.faddr 0) [.s 1],
 p 11 (.faddr 1) [.s 10],
  ⟨12, true, .load none, [.s 11], none, [1], []⟩,
 p 13 (.call 149) [.s 12],
  ⟨14, true, .build [et, et] [(0, 1), (1, 1)], [.s 9, .s 13], none, [9, 13], []⟩,
  ⟨15, true, .build [et, et, et] [(0, 2)], [.s 14], none, [9, 13], []⟩,
 p 3 (.zero [et, et, et]) [],
  ⟨500, false, .store 3, [.s 3, .s 15], none, [3, 9, 13], [3]⟩])
 (.seq (.seq (.reg [
 p 16 (.faddr 2) [.s 1],
 p 17 (.load none) [.s 16],
 p 18 .len [.s 17],
 p 19 .mv [.c zz]])
 (.block 0 (.loop (.seq (.reg [
 p 20 (.bin .lss) [.s 19, .s 18]])
 (.seq (.cond (.s 20) .skip
 (.exit 0))
 (.seq (.block 1 (.seq (.reg [
 p 21 (.iaddr 10) [.s 17, .s 19],
 p 22 (.load (some 10)) [.s 21],
 p 5 (.zero [zz, zz, zz, zz, zz, et, et, (.int .u32 0), et, (.int .u32 0)]) [],
  ⟨501, false, .store 10, [.s 5, .s 22], none, [], []⟩])
 (.drw [
 p 23 (.faddr 2) [.s 3],
  ⟨24, true, .load none, [.s 23], none, [3], []⟩,
  ⟨25, true, .load (some 10), [.s 5], none, [5], []⟩,
 p 26 (.call 150) [.s 25],
  ⟨27, true, .buildSlL 10 [zz, zz, zz, zz, zz, se, se, (.int .u32 0), se, (.int .u32 0)] 1 [0], [.s 26], none, [26], [26]⟩,
  ⟨28, true, .app 10 128 [zz, zz, zz, zz, zz, se, se, (.int .u32 0), se, (.int .u32 0)], [.s 24, .s 27], none, [9, 13, 27, 28], [9, 13, 27, 28]⟩,
 p 29 (.faddr 2) [.s 3],
  ⟨502, false, .store 1, [.s 29, .s 28], none, [3, 9, 13, 27, 28], [3]⟩])))
 (.reg [
 p 30 (.bin .add) [.s 19, .c (.int .i64 1)],
 p 19 .mv [.s 30]])))))))
 (.seq (.reg [
 p 31 (.load (some 3)) [.s 3],
  ⟨503, false, .store 3, [.s 2, .s 31], none, [], []⟩])
 .ret))))
def F88 : AFun where
  n := 23
  res := [.tmp 4]
  code := (.seq (.reg [
 p 2 (.box 3) [.s 0],
 p 4 .mv [.c ff]])
 (.seq (.reg [
 p 5 .mv [.s 1],
 p 6 (.bin .geq) [.s 5, .c zz],
 p 7 .mv [.s 6],
  ⟨8, true, .mv, [.s 1], (some (7, true)), [], []⟩,
  ⟨9, true, .faddr 2, [.s 2], (some (7, true)), [], []⟩,
  ⟨10, true, .load none, [.s 9], (some (7, true)), [], []⟩,
  ⟨11, true, .len, [.s 10], (some (7, true)), [], []⟩,
  ⟨12, true, .bin .lss, [.s 8, .s 11], (some (7, true)), [], []⟩,
 p 13 .pick [.s 7, .s 12, .c ff],
 p 14 .mv [.s 13],
  ⟨15, true, .faddr 2, [.s 2], (some (14, true)), [], []⟩,
  ⟨16, true, .load none, [.s 15], (some (14, true)), [], []⟩,
  ⟨17, true, .mv, [.s 1], (some (14, true)), [], []⟩,
  ⟨18, true, .iaddr 10, [.s 16, .s 17], (some (14, true)), [], []⟩,
  ⟨19, true, .faddr 0, [.s 18], (some (14, true)), [], []⟩,
  ⟨20, true, .load none, [.s 19], (some (14, true)), [], []⟩,
  ⟨21, true, .bin .neq, [.s 20, .c zz], (some (14, true)), [], []⟩,
 p 22 .pick [.s 14, .s 21, .c ff],
 p 4 .mv [.s 22]])
 .ret))
def F89 : AFun where
  n := 14
  res := [.tmp 4, .tmp 5]
  code := (.seq (.reg [
 p 4 .mv [.c zz],
 p 5 .mv [.c ff]])
 (.seq (.reg [
 p 6 .mv [.s 0],
 p 7 .nilck [.s 6],
 p 8 (.faddr 7) [.s 7],
 p 9 (.load none) [.s 8],
 p 10 .mv [.s 1],
 p 11 (.call 151) [.s 9, .s 10, .c (.fn 152 [] [])],
 p 12 (.extract 0) [.s 11],
 p 13 (.extract 1) [.s 11],
 p 4 .mv [.s 12],
 p 5 .mv [.s 13]])
 .ret))
def F90 : AFun where
  n := 33
  res := [.tmp 6]
  code := (.seq (.reg [
 p 6 .mv [.c et]])
 (.seq (.reg [
 p 8 .mv [.s 0],
 p 9 .mv [.s 1],
 p 10 .mv [.s 2],
 p 11 .mv [.s 0],
 p 12 .len [.s 11],
 p 13 .slice3 [.s 8, .s 9, .s 10, .s 12]])
 (.seq (.seq (.reg [
 p 14 .mv [.s 1],
 p 15 .mv [.s 2],
 p 16 (.bin .eql) [.s 14, .s 15]])
 (.cond (.s 16) (.seq (.reg [
 p 17 .mv [.s 0],
 p 6 .mv [.s 17]])
 .ret)
 .skip))
 (.seq (.reg [
 p 18 .mv [.s 0],
 p 19 .len [.s 18],
 p 7 .mv [.s 19]])
 (.seq (.drw [
 p 20 .mv [.s 0],
 p 21 .mv [.s 1],
  ⟨22, true, .slice 28 false true, [.s 20, .s 21], none, [0, 26], []⟩,
 p 23 .mv [.s 0],
 p 24 .mv [.s 2],
  ⟨25, true, .slice 28 true false, [.s 23, .s 24], none, [0, 26], []⟩,
  ⟨26, true, .app 28 272 [zz, zz, zz, zz, zz, zz, zz, zz, zz, zz, zz, zz, zz, se, ff, zz, zz, zz, zz, zz, zz, zz, zz, zz, se, ff, se, ff], [.s 22, .s 25], none, [0, 26], [0, 26]⟩,
 p 0 .mv [.s 26]])
 (.seq (.reg [
 p 27 .mv [.s 0],
 p 28 .mv [.s 0],
 p 29 .len [.s 28],
 p 30 .mv [.s 7],
 p 31 (.slice 28 true true) [.s 27, .s 29, .s 30],
  ⟨500, false, .clear [zz, zz, zz, zz, zz, zz, zz, zz, zz, zz, zz, zz, zz, se, ff, zz, zz, zz, zz, zz, zz, zz, zz, zz, se, ff, se, ff], [.s 31], none, [], []⟩])
 (.seq (.reg [
 p 32 .mv [.s 0],
 p 6 .mv [.s 32]])
 .ret)))))))
def F91 : AFun where
  n := 95
  res := [.tmp 6]
  code := (.seq (.reg [
 p 6 .mv [.c et]])
 (.seq (.reg [
 p 10 .mv [.s 0],
 p 11 .mv [.s 1],
 p 12 (.slice 28 true false) [.s 10, .s 11]])
 (.seq (.reg [
 p 13 .mv [.s 2],
 p 14 .len [.s 13],
 p 7 .mv [.s 14]])
 (.seq (.seq (.reg [
 p 15 .mv [.s 7],
 p 16 (.bin .eql) [.s 15, .c zz]])
 (.cond (.s 16) (.seq (.reg [
 p 17 .mv [.s 0],
 p 6 .mv [.s 17]])
 .ret)
 .skip))
 (.seq (.reg [
 p 18 .mv [.s 0],
 p 19 .len [.s 18],
 p 8 .mv [.s 19]])
 (.seq (.seq (.reg [
 p 20 .mv [.s 1],
 p 21 .mv [.s 8],
 p 22 (.bin .eql) [.s 20, .s 21]])
 (.cond (.s 22) (.seq (.reg [
 p 23 .mv [.s 0],
 p 24 .mv [.s 2],
 p 25 (.app 28 272 [zz, zz, zz, zz, zz, zz, zz, zz, zz, zz, zz, zz, zz, se, ff, zz, zz, zz, zz, zz, zz, zz, zz, zz, se, ff, se, ff]) [.s 23, .s 24],
 p 6 .mv [.s 25]])
 .ret)
 .skip))
 (.seq (.seq (.reg [
 p 26 .mv [.s 8],
 p 27 .mv [.s 7],
 p 28 (.bin .add) [.s 26, .s 27],
 p 29 .mv [.s 0],
 p 30 .capE [.s 29],
 p 31 (.bin .gtr) [.s 28, .s 30]])
 (.cond (.s 31) (.seq (.reg [
 p 32 .mv [.s 0],
 p 33 .mv [.s 1],
 p 34 (.slice 28 false true) [.s 32, .s 33],
 p 35 .mv [.s 8],
 p 36 .mv [.s 7],
 p 37 (.bin .add) [.s 35, .s 36],
 p 38 .mv [.s 1],
 p 39 (.bin .sub) [.s 37, .s 38],
 p 40 (.appZ 272 [zz, zz, zz, zz, zz, zz, zz, zz, zz, zz, zz, zz, zz, se, ff, zz, zz, zz, zz, zz, zz, zz, zz, zz, se, ff, se, ff]) [.s 34, .s 39],
 p 9 .mv [.s 40]])
 (.seq (.reg [
 p 41 .mv [.s 9],
 p 42 .mv [.s 1],
 p 43 (.slice 28 true false) [.s 41, .s 42],
 p 44 .mv [.s 2],
 p 45 .bad [.s 43, .s 44]])
 (.seq (.drw [
 p 46 .mv [.s 9],
 p 47 .mv [.s 1],
 p 48 .mv [.s 7],
 p 49 (.bin .add) [.s 47, .s 48],
  ⟨50, true, .slice 28 true false, [.s 46, .s 49], none, [40], []⟩,
 p 51 .mv [.s 0],
 p 52 .mv [.s 1],
  ⟨53, true, .slice 28 true false, [.s 51, .s 52], none, [0], []⟩,
 p 54 .bad [.s 50, .s 53]])
 (.seq (.reg [
 p 55 .mv [.s 9],
 p 6 .mv [.s 55]])
 .ret))))
 .skip))
 (.seq (.reg [
 p 56 .mv [.s 0],
 p 57 .mv [.s 8],
 p 58 .mv [.s 7],
 p 59 (.bin .add) [.s 57, .s 58],
 p 60 (.slice 28 false true) [.s 56, .s 59],
 p 0 .mv [.s 60]])
 (.seq (.seq (.reg [
 p 61 .mv [.s 2],
 p 62 .mv [.s 0],
 p 63 .mv [.s 1],
 p 64 .mv [.s 7],
 p 65 (.bin .add) [.s 63, .s 64],
 p 66 (.slice 28 true false) [.s 62, .s 65],
 p 67 .bad [],
 p 68 (.un .not) [.s 67]])
 (.cond (.s 68) (.seq (.drw [
 p 69 .mv [.s 0],
 p 70 .mv [.s 1],
 p 71 .mv [.s 7],
 p 72 (.bin .add) [.s 70, .s 71],
  ⟨73, true, .slice 28 true false, [.s 69, .s 72], none, [0], []⟩,
 p 74 .mv [.s 0],
 p 75 .mv [.s 1],
  ⟨76, true, .slice 28 true false, [.s 74, .s 75], none, [0], []⟩,
 p 77 .bad [.s 73, .s 76]])
 (.seq (.reg [
 p 78 .mv [.s 0],
 p 79 .mv [.s 1],
 p 80 (.slice 28 true false) [.s 78, .s 79],
 p 81 .mv [.s 2],
 p 82 .bad [.s 80, .s 81]])
 (.seq (.reg [
 p 83 .mv [.s 0],
 p 6 .mv [.s 83]])
 .ret)))
 .skip))
 (.seq (.reg [
 p 84 .mv [.s 0],
 p 85 .mv [.s 8],
 p 86 (.slice 28 true false) [.s 84, .s 85],
 p 87 .mv [.s 2],
 p 88 .bad [.s 86, .s 87]])
 (.seq (.reg [
 p 89 .mv [.s 0],
 p 90 .mv [.s 1],
 p 91 (.slice 28 true false) [.s 89, .s 90],
 p 92 .mv [.s 7],
 p 93 (.call 154) [.s 91, .s 92]])
 (.seq (.reg [
 p 94 .mv [.s 0],
 p 6 .mv [.s 94]])
 .ret))))))))))))
def F92 : AFun where
  n := 15
  res := [.cell 6 (some 28)]
  code := (.seq (.reg [
 p 6 (.zero [zz, zz, zz, zz, zz, zz, zz, zz, zz, zz, zz, zz, zz, et, ff, zz, zz, zz, zz, zz, zz, zz, zz, zz, et, ff, et, ff]) []])
 (.seq (.reg [
 p 7 .mv [.s 0],
 p 8 .mv [.s 1],
 p 9 .mv [.s 2],
 p 10 .mv [.s 2],
 p 11 (.call 155) [.s 10],
 p 12 .mv [.s 2],
 p 13 (.call 155) [.s 12],
 p 14 (.build [zz, zz, zz, zz, zz, zz, zz, zz, zz, zz, zz, zz, zz, et, ff, zz, zz, zz, zz, zz, zz, zz, zz, zz, et, ff, et, ff] [(0, 1), (1, 1), (2, 1), (4, 11), (15, 11)]) [.s 7, .s 8, .s 9, .s 11, .s 13],
  ⟨500, false, .store 28, [.s 6, .s 14], none, [], []⟩])
 .ret))
def F94 : AFun where
  n := 172
  res := [.tmp 2]
  code := (.seq (.reg [
 p 1 (.box 4) [.s 0],
 p 2 .mv [.c ff]])
 (.seq (.reg [
 p 4 (.build [zz] [(0, 1)]) [.c (.int .i64 8)],
 p 3 (.zero [zz]) [],
  ⟨500, false, .store 1, [.s 3, .s 4], none, [], []⟩])
 (.seq (.seq (.reg [
 p 5 (.faddr 0) [.s 1],
 p 6 (.load none) [.s 5]])
 (.block 0 (.seq (.seq (.reg [
 p 8 (.bin .eql) [.s 6, .c zz],
 p 7 .mv [.s 8]])
 (.cond (.s 7) .skip
 (.reg [
 p 9 (.bin .eql) [.s 6, .c (.int .i64 11)],
 p 7 .mv [.s 9]])))
 (.cond (.s 7) (.seq (.reg [
 p 10 (.faddr 1) [.s 1],
 p 11 (.load none) [.s 10],
 p 12 (.bin .eql) [.s 11, .c zz],
 p 13 .mv [.s 12],
  ⟨14, true, .faddr 2, [.s 1], (some (13, true)), [], []⟩,
  ⟨15, true, .load none, [.s 14], (some (13, true)), [], []⟩,
  ⟨16, true, .bin .eql, [.s 15, .c zz], (some (13, true)), [], []⟩,
 p 17 .pick [.s 13, .s 16, .c ff],
 p 18 .mv [.s 17],
  ⟨19, true, .faddr 3, [.s 1], (some (18, true)), [], []⟩,
  ⟨20, true, .load none, [.s 19], (some (18, true)), [], []⟩,
  ⟨21, true, .bin .eql, [.s 20, .c zz], (some (18, true)), [], []⟩,
 p 22 .pick [.s 18, .s 21, .c ff],
 p 2 .mv [.s 22]])
 .ret)
 (.seq (.reg [
 p 24 (.bin .eql) [.s 6, .c (.int .i64 1)],
 p 23 .mv [.s 24]])
 (.cond (.s 23) (.seq (.reg [
 p 25 (.load (some 1)) [.s 3],
 p 26 (.faddr 1) [.s 1],
 p 27 (.load none) [.s 26],
 p 28 (.call 158) [.s 25, .s 27],
 p 29 .mv [.s 28],
  ⟨30, true, .faddr 2, [.s 1], (some (29, true)), [], []⟩,
  ⟨31, true, .load none, [.s 30], (some (29, true)), [], []⟩,
  ⟨32, true, .bin .eql, [.s 31, .c zz], (some (29, true)), [], []⟩,
 p 33 .pick [.s 29, .s 32, .c ff],
 p 34 .mv [.s 33],
  ⟨35, true, .faddr 3, [.s 1], (some (34, true)), [], []⟩,
  ⟨36, true, .load none, [.s 35], (some (34, true)), [], []⟩,
  ⟨37, true, .bin .geq, [.s 36, .c (.int .i64 (-2147483648))], (some (34, true)), [], []⟩,
 p 38 .pick [.s 34, .s 37, .c ff],
 p 39 .mv [.s 38],
  ⟨40, true, .faddr 3, [.s 1], (some (39, true)), [], []⟩,
  ⟨41, true, .load none, [.s 40], (some (39, true)), [], []⟩,
  ⟨42, true, .bin .lss, [.s 41, .c (.int .i64 2147483648)], (some (39, true)), [], []⟩,
 p 43 .pick [.s 39, .s 42, .c ff],
 p 2 .mv [.s 43]])
 .ret)
 (.seq (.seq (.reg [
 p 45 (.bin .eql) [.s 6, .c (.int .i64 2)],
 p 44 .mv [.s 45]])
 (.cond (.s 44) .skip
 (.seq (.reg [
 p 46 (.bin .eql) [.s 6, .c (.int .i64 3)],
 p 44 .mv [.s 46]])
 (.cond (.s 44) .skip
 (.reg [
 p 47 (.bin .eql) [.s 6, .c (.int .i64 4)],
 p 44 .mv [.s 47]])))))
 (.cond (.s 44) (.seq (.reg [
 p 48 (.load (some 1)) [.s 3],
 p 49 (.faddr 1) [.s 1],
 p 50 (.load none) [.s 49],
 p 51 (.call 158) [.s 48, .s 50],
 p 52 .mv [.s 51],
  ⟨53, true, .load (some 1), [.s 3], (some (52, true)), [], []⟩,
  ⟨54, true, .faddr 2, [.s 1], (some (52, true)), [], []⟩,
  ⟨55, true, .load none, [.s 54], (some (52, true)), [], []⟩,
  ⟨56, true, .call 158, [.s 53, .s 55], (some (52, true)), [], []⟩,
 p 57 .pick [.s 52, .s 56, .c ff],
 p 58 .mv [.s 57],
  ⟨59, true, .faddr 3, [.s 1], (some (58, true)), [], []⟩,
  ⟨60, true, .load none, [.s 59], (some (58, true)), [], []⟩,
  ⟨61, true, .bin .eql, [.s 60, .c zz], (some (58, true)), [], []⟩,
 p 62 .pick [.s 58, .s 61, .c ff],
 p 2 .mv [.s 62]])
 .ret)
 (.seq (.reg [
 p 64 (.bin .eql) [.s 6, .c (.int .i64 5)],
 p 63 .mv [.s 64]])
 (.cond (.s 63) (.seq (.reg [
 p 65 (.load (some 1)) [.s 3],
 p 66 (.faddr 1) [.s 1],
 p 67 (.load none) [.s 66],
 p 68 (.call 158) [.s 65, .s 67],
 p 69 .mv [.s 68],
  ⟨70, true, .faddr 2, [.s 1], (some (69, true)), [], []⟩,
  ⟨71, true, .load none, [.s 70], (some (69, true)), [], []⟩,
  ⟨72, true, .bin .eql, [.s 71, .c zz], (some (69, true)), [], []⟩,
 p 73 .pick [.s 69, .s 72, .c ff],
 p 74 .mv [.s 73],
  ⟨75, true, .faddr 3, [.s 1], (some (74, true)), [], []⟩,
  ⟨76, true, .load none, [.s 75], (some (74, true)), [], []⟩,
  ⟨77, true, .bin .geq, [.s 76, .c (.int .i64 (-63))], (some (74, true)), [], []⟩,
 p 78 .pick [.s 74, .s 77, .c ff],
 p 79 .mv [.s 78],
  ⟨80, true, .faddr 3, [.s 1], (some (79, true)), [], []⟩,
  ⟨81, true, .load none, [.s 80], (some (79, true)), [], []⟩,
  ⟨82, true, .bin .leq, [.s 81, .c (.int .i64 63)], (some (79, true)), [], []⟩,
 p 83 .pick [.s 79, .s 82, .c ff],
 p 2 .mv [.s 83]])
 .ret)
 (.seq (.reg [
 p 85 (.bin .eql) [.s 6, .c (.int .i64 6)],
 p 84 .mv [.s 85]])
 (.cond (.s 84) (.seq (.reg [
 p 86 (.load (some 1)) [.s 3],
 p 87 (.faddr 1) [.s 1],
 p 88 (.load none) [.s 87],
 p 89 (.call 158) [.s 86, .s 88],
 p 90 .mv [.s 89],
  ⟨91, true, .faddr 2, [.s 1], (some (90, true)), [], []⟩,
  ⟨92, true, .load none, [.s 91], (some (90, true)), [], []⟩,
  ⟨93, true, .bin .eql, [.s 92, .c zz], (some (90, true)), [], []⟩,
 p 94 .pick [.s 90, .s 93, .c ff],
 p 95 .mv [.s 94],
  ⟨96, true, .faddr 3, [.s 1], (some (95, true)), [], []⟩,
  ⟨97, true, .load none, [.s 96], (some (95, true)), [], []⟩,
  ⟨98, true, .bin .geq, [.s 97, .c (.int .i64 1)], (some (95, true)), [], []⟩,
 p 99 .pick [.s 95, .s 98, .c ff],
 p 100 .mv [.s 99],
  ⟨101, true, .faddr 3, [.s 1], (some (100, true)), [], []⟩,
  ⟨102, true, .load none, [.s 101], (some (100, true)), [], []⟩,
  ⟨103, true, .bin .leq, [.s 102, .c (.int .i64 64)], (some (100, true)), [], []⟩,
 p 104 .pick [.s 100, .s 103, .c ff],
 p 2 .mv [.s 104]])
 .ret)
 (.seq (.reg [
 p 106 (.bin .eql) [.s 6, .c (.int .i64 7)],
 p 105 .mv [.s 106]])
 (.cond (.s 105) (.seq (.reg [
 p 107 (.load (some 1)) [.s 3],
 p 108 (.faddr 1) [.s 1],
 p 109 (.load none) [.s 108],
 p 110 (.call 158) [.s 107, .s 109],
 p 111 .mv [.s 110],
  ⟨112, true, .faddr 2, [.s 1], (some (111, true)), [], []⟩,
  ⟨113, true, .load none, [.s 112], (some (111, true)), [], []⟩,
  ⟨114, true, .bin .eql, [.s 113, .c zz], (some (111, true)), [], []⟩,
 p 115 .pick [.s 111, .s 114, .c ff],
 p 116 .mv [.s 115],
  ⟨117, true, .faddr 3, [.s 1], (some (116, true)), [], []⟩,
  ⟨118, true, .load none, [.s 117], (some (116, true)), [], []⟩,
  ⟨119, true, .bin .geq, [.s 118, .c (.int .i64 1)], (some (116, true)), [], []⟩,
 p 120 .pick [.s 116, .s 119, .c ff],
 p 121 .mv [.s 120],
  ⟨122, true, .faddr 3, [.s 1], (some (121, true)), [], []⟩,
  ⟨123, true, .load none, [.s 122], (some (121, true)), [], []⟩,
  ⟨124, true, .bin .leq, [.s 123, .c (.int .i64 24)], (some (121, true)), [], []⟩,
 p 125 .pick [.s 121, .s 124, .c ff],
 p 2 .mv [.s 125]])
 .ret)
 (.seq (.reg [
 p 127 (.bin .eql) [.s 6, .c (.int .i64 8)],
 p 126 .mv [.s 127]])
 (.cond (.s 126) (.seq (.reg [
 p 128 (.faddr 1) [.s 1],
 p 129 (.load none) [.s 128],
 p 130 (.bin .eql) [.s 129, .c zz],
 p 131 .mv [.s 130],
  ⟨132, true, .faddr 2, [.s 1], (some (131, true)), [], []⟩,
  ⟨133, true, .load none, [.s 132], (some (131, true)), [], []⟩,
  ⟨134, true, .bin .geq, [.s 133, .c (.int .i64 1)], (some (131, true)), [], []⟩,
 p 135 .pick [.s 131, .s 134, .c ff],
 p 136 .mv [.s 135],
  ⟨137, true, .faddr 2, [.s 1], (some (136, true)), [], []⟩,
  ⟨138, true, .load none, [.s 137], (some (136, true)), [], []⟩,
  ⟨139, true, .bin .leq, [.s 138, .c (.int .i64 24)], (some (136, true)), [], []⟩,
 p 140 .pick [.s 136, .s 139, .c ff],
 p 141 .mv [.s 140],
  ⟨142, true, .faddr 3, [.s 1], (some (141, true)), [], []⟩,
  ⟨143, true, .load none, [.s 142], (some (141, true)), [], []⟩,
  ⟨144, true, .bin .geq, [.s 143, .c (.int .i64 1)], (some (141, true)), [], []⟩,
 p 145 .pick [.s 141, .s 144, .c ff],
 p 146 .mv [.s 145],
  ⟨147, true, .faddr 3, [.s 1], (some (146, true)), [], []⟩,
  ⟨148, true, .load none, [.s 147], (some (146, true)), [], []⟩,
  ⟨149, true, .bin .leq, [.s 148, .c (.int .i64 20)], (some (146, true)), [], []⟩,
 p 150 .pick [.s 146, .s 149, .c ff],
 p 2 .mv [.s 150]])
 .ret)
 (.seq (.seq (.reg [
 p 152 (.bin .eql) [.s 6, .c (.int .i64 9)],
 p 151 .mv [.s 152]])
 (.cond (.s 151) .skip
 (.reg [
 p 153 (.bin .eql) [.s 6, .c (.int .i64 10)],
 p 151 .mv [.s 153]])))
 (.cond (.s 151) (.seq (.reg [
 p 154 (.faddr 1) [.s 1],
 p 155 (.load none) [.s 154],
 p 156 (.bin .geq) [.s 155, .c zz],
 p 157 .mv [.s 156],
  ⟨158, true, .faddr 1, [.s 1], (some (157, true)), [], []⟩,
  ⟨159, true, .load none, [.s 158], (some (157, true)), [], []⟩,
  ⟨160, true, .bin .lss, [.s 159, .c (.int .i64 4)], (some (157, true)), [], []⟩,
 p 161 .pick [.s 157, .s 160, .c ff],
 p 162 .mv [.s 161],
  ⟨163, true, .faddr 2, [.s 1], (some (162, true)), [], []⟩,
  ⟨164, true, .load none, [.s 163], (some (162, true)), [], []⟩,
  ⟨165, true, .bin .eql, [.s 164, .c zz], (some (162, true)), [], []⟩,
 p 166 .pick [.s 162, .s 165, .c ff],
 p 167 .mv [.s 166],
  ⟨168, true, .faddr 3, [.s 1], (some (167, true)), [], []⟩,
  ⟨169, true, .load none, [.s 168], (some (167, true)), [], []⟩,
  ⟨170, true, .bin .eql, [.s 169, .c zz], (some (167, true)), [], []⟩,
 p 171 .pick [.s 167, .s 170, .c ff],
 p 2 .mv [.s 171]])
 .ret)
 .skip))))))))))))))))))
 (.seq (.reg [
 p 2 .mv [.c ff]])
 .ret))))
def F98 : AFun where
  n := 26
  res := [.tmp 4]
  code := (.seq (.reg [
 p 4 .mv [.c ff]])
 (.seq (.seq (.reg [
 p 6 .mv [.s 0],
 p 7 .len [.s 6],
 p 8 .mv [.s 1],
 p 9 .len [.s 8],
 p 10 (.bin .neq) [.s 7, .s 9]])
 (.cond (.s 10) (.seq (.reg [
 p 4 .mv [.c ff]])
 .ret)
 .skip))
 (.seq (.seq (.reg [
 p 5 .mv [.c zz]])
 (.block 0 (.loop (.seq (.seq (.reg [
 p 11 .mv [.s 5],
 p 12 .mv [.s 0],
 p 13 .len [.s 12],
 p 14 (.bin .lss) [.s 11, .s 13]])
 (.cond (.s 14) .skip
 (.exit 0)))
 (.seq (.block 1 (.seq (.drw [
 p 17 .mv [.s 0],
 p 18 .mv [.s 5],
 p 19 (.iaddr 4) [.s 17, .s 18],
 p 20 (.load (some 4)) [.s 19],
 p 21 .mv [.s 1],
 p 22 .mv [.s 5],
 p 23 (.iaddr 4) [.s 21, .s 22],
 p 24 (.load (some 4)) [.s 23],
 p 25 (.eqv true [some .i64, some .i64, some .i64, some .i64] true) [.s 20, .s 24]])
 (.cond (.s 25) (.seq (.reg [
 p 4 .mv [.c ff]])
 .ret)
 .skip)))
 (.reg [
 p 15 .mv [.s 5],
 p 16 (.bin .add) [.s 15, .c (.int .i64 1)],
 p 5 .mv [.s 16]]))))))
 (.seq (.reg [
 p 4 .mv [.c (.bool true)]])
 .ret))))
def F99 : AFun where
  n := 11
  res := [.cell 2 (some 2)]
  code := (.seq (.reg [
 p 2 (.zero [et, et]) []])
 (.seq (.reg [
 p 3 .mv [.s 0],
 p 4 .most [.s 3, .c zz],
 p 5 .least [.s 4, .c (.int .i64 64)],
 p 0 .mv [.s 5]])
 (.seq (.drw [
 p 6 .mv [.s 0],
 p 7 (.mkslice [zz] 8) [.s 6, .s 6],
 p 8 .mv [.s 0],
 p 9 (.mkslice [ff] 1) [.s 8, .s 8],
  ⟨10, true, .build [et, et] [(0, 1), (1, 1)], [.s 7, .s 9], none, [7, 9], []⟩,
  ⟨500, false, .store 2, [.s 2, .s 10], none, [2, 7, 9], [2]⟩])
 .ret)))
def F100 : AFun where
  n := 69
  res := [.tmp 6, .tmp 7, .tmp 8]
  code := (.seq (.reg [
 p 4 (.box 6) [.s 1],
 p 6 .mv [.c et],
 p 7 .mv [.c et],
 p 8 .mv [.c zz]])
 (.seq (.reg [
 p 14 (.load (some 6)) [.s 4],
 p 15 (.call 160) [.s 14],
 p 9 .mv [.s 15]])
 (.seq (.seq (.reg [
 p 16 .mv [.s 9],
 p 17 (.bin .neq) [.s 16, .c zz]])
 (.cond (.s 17) (.seq (.reg [
 p 18 .mv [.s 9],
 p 6 .mv [.c et],
 p 7 .mv [.c et],
 p 8 .mv [.s 18]])
 .ret)
 .skip))
 (.seq (.reg [
 p 10 .mv [.c zz]])
 (.seq (.seq (.reg [
 p 11 .mv [.c zz]])
 (.block 0 (.loop (.seq (.seq (.reg [
 p 19 .mv [.s 11],
 p 20 .mv [.s 0],
 p 21 .len [.s 20],
 p 22 (.bin .lss) [.s 19, .s 21]])
 (.cond (.s 22) .skip
 (.exit 0)))
 (.seq (.block 1 (.seq (.seq (.drw [
 p 25 .mv [.s 0],
 p 26 .mv [.s 11],
 p 27 (.iaddr 6) [.s 25, .s 26],
 p 28 (.faddr 0) [.s 27],
 p 29 (.load none) [.s 28],
 p 30 (.faddr 0) [.s 4],
  ⟨31, true, .load none, [.s 30], none, [4], []⟩,
 p 32 (.bin .eql) [.s 29, .s 31]])
 (.cond (.s 32) (.seq (.reg [
 p 6 .mv [.c et],
 p 7 .mv [.c et],
 p 8 .mv [.c (.int .i64 11)]])
 .ret)
 .skip))
 (.seq (.drw [
 p 33 .mv [.s 0],
 p 34 .mv [.s 11],
 p 35 (.iaddr 6) [.s 33, .s 34],
 p 36 (.faddr 0) [.s 35],
 p 37 (.load none) [.s 36],
 p 38 (.faddr 0) [.s 4],
  ⟨39, true, .load none, [.s 38], none, [4], []⟩,
 p 40 (.bin .lss) [.s 37, .s 39]])
 (.cond (.s 40) (.reg [
 p 41 .mv [.s 11],
 p 42 (.bin .add) [.s 41, .c (.int .i64 1)],
 p 10 .mv [.s 42]])
 .skip))))
 (.reg [
 p 23 .mv [.s 11],
 p 24 (.bin .add) [.s 23, .c (.int .i64 1)],
 p 11 .mv [.s 24]]))))))
 (.seq (.seq (.reg [
 p 43 .mv [.s 0],
 p 44 .len [.s 43],
 p 45 (.bin .geq) [.s 44, .c (.int .i64 8)]])
 (.cond (.s 45) (.seq (.reg [
 p 6 .mv [.c et],
 p 7 .mv [.c et],
 p 8 .mv [.c (.int .i64 4)]])
 .ret)
 .skip))
 (.seq (.drw [
 p 46 (.buildSl 6 [zz, zz, zz, se, se, se] 0 []) [],
 p 47 .mv [.s 0],
 p 48 .mv [.s 10],
 p 49 (.slice 6 false true) [.s 47, .s 48],
  ⟨50, true, .app 6 96 [zz, zz, zz, se, se, se], [.s 46, .s 49], none, [46], [46]⟩,
  ⟨51, true, .load (some 6), [.s 4], none, [4], []⟩,
 p 52 (.buildSl 6 [zz, zz, zz, se, se, se] 1 [0]) [.s 51],
  ⟨53, true, .app 6 96 [zz, zz, zz, se, se, se], [.s 50, .s 52], none, [46, 50, 52], [46, 50]⟩,
 p 54 .mv [.s 0],
 p 55 .mv [.s 10],
 p 56 (.slice 6 true false) [.s 54, .s 55],
  ⟨57, true, .app 6 96 [zz, zz, zz, se, se, se], [.s 53, .s 56], none, [46, 50, 52, 53], [46, 50, 52, 53]⟩,
 p 12 .mv [.s 57]])
 (.seq (.reg [
 p 59 .mv [.s 12],
 p 60 .mv [.s 2],
 p 61 (.call 161) [.s 59, .s 60],
 p 58 .mv [.s 61],
 p 62 (.extract 0) [.s 58],
 p 63 (.extract 1) [.s 58],
 p 13 .mv [.s 62],
 p 9 .mv [.s 63]])
 (.seq (.seq (.reg [
 p 64 .mv [.s 9],
 p 65 (.bin .neq) [.s 64, .c zz]])
 (.cond (.s 65) (.seq (.reg [
 p 66 .mv [.s 9],
 p 6 .mv [.c et],
 p 7 .mv [.c et],
 p 8 .mv [.s 66]])
 .ret)
 .skip))
 (.seq (.reg [
 p 67 .mv [.s 12],
 p 68 .mv [.s 13],
 p 6 .mv [.s 67],
 p 7 .mv [.s 68],
 p 8 .mv [.c zz]])
 .ret))))))))))
def F114 : AFun where
  n := 52
  res := [.tmp 4]
  code := (.seq (.reg [
 p 2 (.box 11) [.s 0],
 p 3 (.box 11) [.s 1],
 p 4 .mv [.c ff]])
 (.seq (.seq (.reg [
 p 6 (.faddr 0) [.s 2],
 p 7 (.load none) [.s 6],
 p 8 (.faddr 0) [.s 3],
 p 9 (.load none) [.s 8],
 p 10 (.bin .neq) [.s 7, .s 9],
 p 11 .mv [.s 10],
  ⟨12, true, .faddr 1, [.s 2], (some (11, false)), [], []⟩,
  ⟨13, true, .load (some 8), [.s 12], (some (11, false)), [], []⟩,
  ⟨14, true, .faddr 1, [.s 3], (some (11, false)), [], []⟩,
  ⟨15, true, .load (some 8), [.s 14], (some (11, false)), [], []⟩,
  ⟨16, true, .eqv true [some .i64, some .i64, some .i64, some .i64, some .i64, some .i64, some .i64, some .i64] true, [.s 13, .s 15], (some (11, false)), [], []⟩,
 p 17 .pick [.s 11, .c (.bool true), .s 16],
 p 18 .mv [.s 17],
  ⟨19, true, .faddr 10, [.s 2], (some (18, false)), [], []⟩,
  ⟨20, true, .load none, [.s 19], (some (18, false)), [], []⟩,
  ⟨21, true, .faddr 10, [.s 3], (some (18, false)), [], []⟩,
  ⟨22, true, .load none, [.s 21], (some (18, false)), [], []⟩,
  ⟨23, true, .eqv false [none] true, [.s 20, .s 22], (some (18, false)), [], []⟩,
 p 24 .pick [.s 18, .c (.bool true), .s 23],
 p 25 .mv [.s 24],
  ⟨26, true, .faddr 9, [.s 2], (some (25, false)), [], []⟩,
  ⟨27, true, .load none, [.s 26], (some (25, false)), [], []⟩,
  ⟨28, true, .len, [.s 27], (some (25, false)), [], []⟩,
  ⟨29, true, .faddr 9, [.s 3], (some (25, false)), [], []⟩,
  ⟨30, true, .load none, [.s 29], (some (25, false)), [], []⟩,
  ⟨31, true, .len, [.s 30], (some (25, false)), [], []⟩,
  ⟨32, true, .bin .neq, [.s 28, .s 31], (some (25, false)), [], []⟩,
 p 33 .pick [.s 25, .c (.bool true), .s 32]])
 (.cond (.s 33) (.seq (.reg [
 p 4 .mv [.c ff]])
 .ret)
 .skip))
 (.seq (.seq (.reg [
 p 5 .mv [.c zz]])
 (.block 0 (.loop (.seq (.seq (.reg [
 p 34 .mv [.s 5],
 p 35 (.faddr 9) [.s 2],
 p 36 (.load none) [.s 35],
 p 37 .len [.s 36],
 p 38 (.bin .lss) [.s 34, .s 37]])
 (.cond (.s 38) .skip
 (.exit 0)))
 (.seq (.block 1 (.seq (.drw [
 p 41 (.faddr 9) [.s 2],
  ⟨42, true, .load none, [.s 41], none, [2], []⟩,
 p 43 .mv [.s 5],
 p 44 (.iaddr 3) [.s 42, .s 43],
 p 45 (.load (some 3)) [.s 44],
 p 46 (.faddr 9) [.s 3],
  ⟨47, true, .load none, [.s 46], none, [3], []⟩,
 p 48 .mv [.s 5],
 p 49 (.iaddr 3) [.s 47, .s 48],
 p 50 (.load (some 3)) [.s 49],
 p 51 (.eqv true [some .i64, some .i64, some .i64] true) [.s 45, .s 50]])
 (.cond (.s 51) (.seq (.reg [
 p 4 .mv [.c ff]])
 .ret)
 .skip)))
 (.reg [
 p 39 .mv [.s 5],
 p 40 (.bin .add) [.s 39, .c (.int .i64 1)],
 p 5 .mv [.s 40]]))))))
 (.seq (.reg [
 p 4 .mv [.c (.bool true)]])
 .ret))))
def F115 : AFun where
  n := 59
  res := [.tmp 4]
  code := (.seq (.reg [
 p 2 (.box 2) [.s 0],
 p 3 (.box 2) [.s 1],
 p 4 .mv [.c ff]])
 (.seq (.seq (.reg [
 p 7 (.faddr 0) [.s 2],
 p 8 (.load none) [.s 7],
 p 9 .len [.s 8],
 p 10 (.faddr 0) [.s 3],
 p 11 (.load none) [.s 10],
 p 12 .len [.s 11],
 p 13 (.bin .neq) [.s 9, .s 12],
 p 14 .mv [.s 13],
  ⟨15, true, .faddr 1, [.s 2], (some (14, false)), [], []⟩,
  ⟨16, true, .load none, [.s 15], (some (14, false)), [], []⟩,
  ⟨17, true, .len, [.s 16], (some (14, false)), [], []⟩,
  ⟨18, true, .faddr 1, [.s 3], (some (14, false)), [], []⟩,
  ⟨19, true, .load none, [.s 18], (some (14, false)), [], []⟩,
  ⟨20, true, .len, [.s 19], (some (14, false)), [], []⟩,
  ⟨21, true, .bin .neq, [.s 17, .s 20], (some (14, false)), [], []⟩,
 p 22 .pick [.s 14, .c (.bool true), .s 21]])
 (.cond (.s 22) (.seq (.reg [
 p 4 .mv [.c ff]])
 .ret)
 .skip))
 (.seq (.seq (.reg [
 p 5 .mv [.c zz]])
 (.block 0 (.loop (.seq (.seq (.reg [
 p 23 .mv [.s 5],
 p 24 (.faddr 0) [.s 2],
 p 25 (.load none) [.s 24],
 p 26 .len [.s 25],
 p 27 (.bin .lss) [.s 23, .s 26]])
 (.cond (.s 27) .skip
 (.exit 0)))
 (.seq (.block 1 (.seq (.drw [
 p 30 (.faddr 0) [.s 2],
  ⟨31, true, .load none, [.s 30], none, [2], []⟩,
 p 32 .mv [.s 5],
 p 33 (.iaddr 1) [.s 31, .s 32],
 p 34 (.load none) [.s 33],
 p 35 (.faddr 0) [.s 3],
  ⟨36, true, .load none, [.s 35], none, [3], []⟩,
 p 37 .mv [.s 5],
 p 38 (.iaddr 1) [.s 36, .s 37],
 p 39 (.load none) [.s 38],
 p 40 (.bin .neq) [.s 34, .s 39]])
 (.cond (.s 40) (.seq (.reg [
 p 4 .mv [.c ff]])
 .ret)
 .skip)))
 (.reg [
 p 28 .mv [.s 5],
 p 29 (.bin .add) [.s 28, .c (.int .i64 1)],
 p 5 .mv [.s 29]]))))))
 (.seq (.seq (.reg [
 p 6 .mv [.c zz]])
 (.block 2 (.loop (.seq (.seq (.reg [
 p 41 .mv [.s 6],
 p 42 (.faddr 1) [.s 2],
 p 43 (.load none) [.s 42],
 p 44 .len [.s 43],
 p 45 (.bin .lss) [.s 41, .s 44]])
 (.cond (.s 45) .skip
 (.exit 2)))
 (.seq (.block 3 (.seq (.drw [
 p 48 (.faddr 1) [.s 2],
  ⟨49, true, .load none, [.s 48], none, [2], []⟩,
 p 50 .mv [.s 6],
 p 51 (.iaddr 1) [.s 49, .s 50],
 p 52 (.load none) [.s 51],
 p 53 (.faddr 1) [.s 3],
  ⟨54, true, .load none, [.s 53], none, [3], []⟩,
 p 55 .mv [.s 6],
 p 56 (.iaddr 1) [.s 54, .s 55],
 p 57 (.load none) [.s 56],
 p 58 (.bin .neq) [.s 52, .s 57]])
 (.cond (.s 58) (.seq (.reg [
 p 4 .mv [.c ff]])
 .ret)
 .skip)))
 (.reg [
 p 46 .mv [.s 6],
 p 47 (.bin .add) [.s 46, .c (.int .i64 1)],
 p 6 .mv [.s 47]]))))))
 (.seq (.reg [
 p 4 .mv [.c (.bool true)]])
 .ret)))))
def F116 : AFun where
  n := 17
  res := [.tmp 4]
  code := (.seq (.reg [
 p 2 (.box 2) [.s 0],
 p 3 (.box 2) [.s 1],
 p 4 .mv [.c ff]])
 (.seq (.reg [
 p 5 (.faddr 0) [.s 2],
 p 6 (.load none) [.s 5],
 p 7 (.faddr 0) [.s 3],
 p 8 (.load none) [.s 7],
 p 9 (.bin .eql) [.s 6, .s 8],
 p 10 .mv [.s 9],
  ⟨11, true, .faddr 1, [.s 2], (some (10, true)), [], []⟩,
  ⟨12, true, .load none, [.s 11], (some (10, true)), [], []⟩,
  ⟨13, true, .faddr 1, [.s 3], (some (10, true)), [], []⟩,
  ⟨14, true, .load none, [.s 13], (some (10, true)), [], []⟩,
  ⟨15, true, .call 190, [.s 12, .s 14], (some (10, true)), [], []⟩,
 p 16 .pick [.s 10, .s 15, .c ff],
 p 4 .mv [.s 16]])
 .ret))
def F123 : AFun where
  n := 50
  res := [.cell 2 (some 13), .tmp 3]
  code := (.seq (.reg [
 p 1 (.box 13) [.s 0],
 p 2 (.zero [zz, zz, et, et, ff, ff, ff, et, et, et, et, et, et]) [],
 p 3 .mv [.c zz]])
 (.seq (.reg [
 p 8 (.load (some 13)) [.s 1],
 p 9 (.call 82) [.s 8],
  ⟨500, false, .store 13, [.s 1, .s 9], none, [], []⟩])
 (.seq (.seq (.reg [
 p 10 (.faddr 4) [.s 1],
 p 11 (.load none) [.s 10]])
 (.cond (.s 11) (.seq (.reg [
 p 12 (.load (some 13)) [.s 1],
  ⟨501, false, .store 13, [.s 2, .s 12], none, [], []⟩,
 p 3 .mv [.c (.int .i64 7)]])
 .ret)
 .skip))
 (.seq (.reg [
 p 13 (.load (some 13)) [.s 1],
 p 14 (.call 146) [.s 13],
 p 4 (.zero [et]) [],
  ⟨502, false, .store 1, [.s 4, .s 14], none, [], []⟩])
 (.seq (.seq (.reg [
 p 15 (.faddr 2) [.s 1],
 p 16 (.load none) [.s 15],
 p 17 .len [.s 16],
 p 18 .mv [.c zz]])
 (.block 0 (.loop (.seq (.reg [
 p 19 (.bin .lss) [.s 18, .s 17]])
 (.seq (.cond (.s 19) .skip
 (.exit 0))
 (.seq (.block 1 (.seq (.reg [
 p 20 (.iaddr 6) [.s 16, .s 18],
 p 21 (.load (some 6)) [.s 20],
 p 6 (.zero [zz, zz, zz, et, et, et]) [],
  ⟨503, false, .store 6, [.s 6, .s 21], none, [], []⟩])
 (.seq (.reg [
 p 22 (.faddr 3) [.s 6],
 p 23 (.load none) [.s 22],
 p 24 (.faddr 4) [.s 6],
 p 25 (.load none) [.s 24],
 p 26 (.buildSl 1 [se] 2 [0, 1]) [.s 23, .s 25],
 p 27 (.call 202) [.s 26],
 p 28 (.mkfn 203 0) [.s 4],
 p 29 (.call 201) [.s 27, .s 28]])
 (.cond (.s 29) (.seq (.reg [
 p 30 (.load (some 13)) [.s 1],
  ⟨504, false, .store 13, [.s 2, .s 30], none, [], []⟩,
 p 3 .mv [.c (.int .i64 4)]])
 .ret)
 .skip))))
 (.reg [
 p 31 (.bin .add) [.s 18, .c (.int .i64 1)],
 p 18 .mv [.s 31]])))))))
 (.seq (.seq (.reg [
 p 32 (.load none) [.s 4],
 p 33 .len [.s 32],
 p 34 .mv [.c zz]])
 (.block 2 (.loop (.seq (.reg [
 p 35 (.bin .lss) [.s 34, .s 33]])
 (.seq (.cond (.s 35) .skip
 (.exit 2))
 (.seq (.block 3 (.seq (.reg [
 p 36 .mv [.s 34],
 p 7 .mv [.s 36]])
 (.drw [
  ⟨37, true, .load none, [.s 4], none, [4], []⟩,
 p 38 .mv [.s 7],
 p 39 (.faddr 2) [.s 1],
  ⟨40, true, .load none, [.s 39], none, [1], []⟩,
 p 41 .mv [.s 7],
  ⟨42, true, .call 204, [.s 40, .s 41], none, [9, 47], []⟩,
  ⟨43, true, .iaddr 2, [.s 37, .s 38], none, [14], []⟩,
 p 44 (.faddr 0) [.s 43],
  ⟨505, false, .store 1, [.s 44, .s 42], none, [14], [14]⟩])))
 (.reg [
 p 45 (.bin .add) [.s 34, .c (.int .i64 1)],
 p 34 .mv [.s 45]])))))))
 (.seq (.reg [
 p 46 (.load none) [.s 4],
 p 47 (.call 205) [.s 1, .s 46]])
 (.seq (.reg [
 p 48 (.faddr 4) [.s 1],
  ⟨506, false, .store 1, [.s 48, .c (.bool true)], none, [], []⟩])
 (.seq (.reg [
 p 49 (.load (some 13)) [.s 1],
  ⟨507, false, .store 13, [.s 2, .s 49], none, [], []⟩,
 p 3 .mv [.c zz]])
 .ret)))))))))
def F127 : AFun where
  n := 45
  res := [.cell 6 (some 3)]
  code := (.seq (.reg [
 p 3 (.box 3) [.s 0],
 p 5 (.box 10) [.s 2],
 p 6 (.zero [et, et, et]) []])
 (.seq (.reg [
 p 9 (.load (some 3)) [.s 3],
 p 10 (.call 87) [.s 9],
 p 7 (.zero [et, et, et]) [],
  ⟨500, false, .store 3, [.s 7, .s 10], none, [], []⟩])
 (.seq (.seq (.reg [
 p 11 (.load (some 3)) [.s 3],
 p 12 .mv [.s 1],
 p 13 (.call 88) [.s 11, .s 12],
 p 14 (.un .not) [.s 13]])
 (.cond (.s 14) (.seq (.reg [
 p 15 (.load (some 3)) [.s 7],
  ⟨501, false, .store 3, [.s 6, .s 15], none, [], []⟩])
 .ret)
 .skip))
 (.seq (.reg [
 p 16 (.faddr 2) [.s 3],
 p 17 (.load none) [.s 16],
 p 18 .mv [.s 1],
 p 19 (.iaddr 10) [.s 17, .s 18],
 p 20 (.load (some 10)) [.s 19],
 p 8 (.zero [zz, zz, zz, zz, zz, et, et, (.int .u32 0), et, (.int .u32 0)]) [],
  ⟨502, false, .store 10, [.s 8, .s 20], none, [], []⟩])
 (.seq (.drw [
 p 21 (.faddr 0) [.s 8],
  ⟨22, true, .load none, [.s 21], none, [8], []⟩,
 p 23 (.faddr 1) [.s 8],
  ⟨24, true, .load (some 2), [.s 23], none, [8], []⟩,
 p 25 (.faddr 0) [.s 5],
  ⟨503, false, .store 1, [.s 25, .s 22], none, [5], [5]⟩,
 p 26 (.faddr 1) [.s 5],
  ⟨504, false, .store 2, [.s 26, .s 24], none, [5], [5]⟩])
 (.seq (.reg [
 p 27 (.load (some 10)) [.s 5],
 p 28 (.call 150) [.s 27],
 p 29 (.call 199) [.s 28],
  ⟨505, false, .store 10, [.s 5, .s 29], none, [], []⟩])
 (.seq (.seq (.drw [
 p 30 (.faddr 9) [.s 8],
  ⟨31, true, .load none, [.s 30], none, [8], []⟩,
  ⟨32, true, .load (some 10), [.s 8], none, [8], []⟩,
 p 33 (.call 208) [.s 32],
 p 34 (.bin .neq) [.s 31, .s 33]])
 (.cond (.s 34) (.reg [
 p 35 (.faddr 9) [.s 5],
 p 36 (.load none) [.s 35],
 p 37 (.un .xor) [.s 36],
 p 38 (.faddr 9) [.s 5],
  ⟨506, false, .store 1, [.s 38, .s 37], none, [], []⟩])
 .skip))
 (.seq (.reg [
 p 39 (.faddr 2) [.s 7],
 p 40 (.load none) [.s 39],
 p 41 .mv [.s 1],
 p 42 (.load (some 10)) [.s 5],
 p 43 (.iaddr 10) [.s 40, .s 41],
  ⟨507, false, .store 10, [.s 43, .s 42], none, [], []⟩])
 (.seq (.reg [
 p 44 (.load (some 3)) [.s 7],
  ⟨508, false, .store 3, [.s 6, .s 44], none, [], []⟩])
 .ret)))))))))
def F132 : AFun := cloneOf 6 96 [zz, zz, zz, se, se, se]
def F133 : AFun := cloneOf 5 40 [zz, zz, zz, zz, zz]
def F134 : AFun := cloneOf 28 272 [zz, zz, zz, zz, zz, zz, zz, zz, zz, zz, zz, zz, zz, se, ff, zz, zz, zz, zz, zz, zz, zz, zz, zz, se, ff, se, ff]
def F135 : AFun := cloneOf 4 32 [zz, zz, zz, zz]
def F136 : AFun := cloneOf 3 24 [zz, zz, zz]
def F137 : AFun := cloneOf 1 8 [zz]
def F138 : AFun where
  n := 22
  res := [.cell 4 (some 2)]
  code := (.seq (.reg [
 p 2 (.box 2) [.s 0],
 p 4 (.zero [et, et]) []])
 (.seq (.reg [
 p 6 (.load (some 2)) [.s 2],
 p 7 (.call 215) [.s 6],
 p 5 (.zero [et, et]) [],
  ⟨500, false, .store 2, [.s 5, .s 7], none, [], []⟩])
 (.seq (.seq (.reg [
 p 8 .mv [.s 1],
 p 9 (.bin .geq) [.s 8, .c zz],
 p 10 .mv [.s 9],
  ⟨11, true, .mv, [.s 1], (some (10, true)), [], []⟩,
  ⟨12, true, .faddr 0, [.s 5], (some (10, true)), [], []⟩,
  ⟨13, true, .load none, [.s 12], (some (10, true)), [], []⟩,
  ⟨14, true, .len, [.s 13], (some (10, true)), [], []⟩,
  ⟨15, true, .bin .lss, [.s 11, .s 14], (some (10, true)), [], []⟩,
 p 16 .pick [.s 10, .s 15, .c ff]])
 (.cond (.s 16) (.reg [
 p 17 (.faddr 0) [.s 5],
 p 18 (.load none) [.s 17],
 p 19 .mv [.s 1],
 p 20 (.iaddr 1) [.s 18, .s 19],
  ⟨501, false, .store 1, [.s 20, .c zz], none, [], []⟩])
 .skip))
 (.seq (.reg [
 p 21 (.load (some 2)) [.s 5],
  ⟨502, false, .store 2, [.s 4, .s 21], none, [], []⟩])
 .ret))))
def F139 : AFun where
  n := 20
  res := []
  code := (.seq (.reg [
 p 3 (.box 6) [.s 1]])
 (.seq (.reg [
 p 4 .mv [.s 0],
 p 5 .nilck [.s 4],
 p 6 (.faddr 0) [.s 5],
 p 7 (.faddr 0) [.s 6],
 p 8 (.load none) [.s 7],
 p 9 (.faddr 0) [.s 3],
  ⟨500, false, .store 1, [.s 9, .s 8], none, [], []⟩])
 (.drw [
 p 10 .mv [.s 0],
 p 11 .mv [.s 0],
 p 12 .nilck [.s 11],
 p 13 (.faddr 13) [.s 12],
  ⟨14, true, .load none, [.s 13], none, [0], []⟩,
  ⟨15, true, .load (some 6), [.s 3], none, [3], []⟩,
 p 16 (.buildSl 6 [zz, zz, zz, zz, zz, zz] 1 [0]) [.s 15],
  ⟨17, true, .app 6 48 [zz, zz, zz, zz, zz, zz], [.s 14, .s 16], none, [0, 16, 17], [0, 16, 17]⟩,
 p 18 .nilck [.s 10],
 p 19 (.faddr 13) [.s 18],
  ⟨501, false, .store 1, [.s 19, .s 17], none, [0, 16, 17], [0]⟩])))
def F140 : AFun where
  n := 55
  res := []
  code := (.seq (.reg [
 p 3 (.box 28) [.s 1]])
 (.seq (.reg [
 p 7 .mv [.s 0],
 p 8 (.faddr 0) [.s 3],
 p 9 (.load none) [.s 8],
 p 10 (.build [zz, zz, zz, zz, zz, zz] [(1, 1), (2, 1)]) [.c (.int .i64 5), .s 9],
 p 11 (.call 139) [.s 7, .s 10]])
 (.seq (.drw [
 p 12 .mv [.s 0],
 p 13 .nilck [.s 12],
 p 14 (.faddr 0) [.s 13],
 p 15 .mv [.s 0],
 p 16 .nilck [.s 15],
 p 17 (.faddr 0) [.s 16],
  ⟨18, true, .load (some 13), [.s 17], none, [0], []⟩,
  ⟨19, true, .call 146, [.s 18], none, [0, 11, 23, 32, 46, 50], [0, 11, 23, 32, 46, 50]⟩,
 p 20 (.faddr 0) [.s 3],
  ⟨21, true, .load none, [.s 20], none, [3], []⟩,
  ⟨22, true, .call 216, [.s 19, .s 21], none, [19], [19]⟩,
  ⟨23, true, .call 205, [.s 14, .s 22], none, [0, 22, 11, 23, 32, 46, 50], [0, 22, 11, 23, 32, 46, 50]⟩])
 (.seq (.drw [
 p 25 .mv [.s 0],
 p 26 .nilck [.s 25],
 p 27 (.faddr 0) [.s 26],
 p 28 (.faddr 11) [.s 27],
  ⟨29, true, .load (some 2), [.s 28], none, [0], []⟩,
 p 30 (.faddr 0) [.s 3],
  ⟨31, true, .load none, [.s 30], none, [3], []⟩,
  ⟨32, true, .call 217, [.s 29, .s 31], none, [0, 11, 23, 32, 46, 50], [0, 11, 23, 32, 46, 50]⟩,
 p 24 .mv [.s 32],
 p 33 (.extract 0) [.s 24],
 p 34 (.extract 1) [.s 24],
 p 35 (.extract 2) [.s 24],
 p 4 (.zero [et, et]) [],
  ⟨500, false, .store 2, [.s 4, .s 33], none, [4, 32], [4]⟩,
 p 5 .mv [.s 34],
 p 6 .mv [.s 35]])
 (.seq (.reg [
 p 36 .mv [.s 0],
 p 37 (.load (some 2)) [.s 4],
 p 38 .nilck [.s 36],
 p 39 (.faddr 0) [.s 38],
 p 40 (.faddr 11) [.s 39],
  ⟨501, false, .store 2, [.s 40, .s 37], none, [], []⟩])
 (.seq (.seq (.reg [
 p 41 .mv [.s 5]])
 (.cond (.s 41) (.reg [
 p 42 .mv [.s 0],
 p 43 (.faddr 0) [.s 3],
 p 44 (.load none) [.s 43],
 p 45 (.build [zz, zz, zz, zz, zz, zz] [(1, 1), (2, 1)]) [.c (.int .i64 9), .s 44],
 p 46 (.call 139) [.s 42, .s 45]])
 .skip))
 (.seq (.reg [
 p 47 .mv [.s 6]])
 (.cond (.s 47) (.seq (.reg [
 p 48 .mv [.s 0],
 p 49 (.build [zz, zz, zz, zz, zz, zz] [(1, 1)]) [.c (.int .i64 10)],
 p 50 (.call 139) [.s 48, .s 49]])
 (.reg [
 p 51 .mv [.s 0],
 p 52 .nilck [.s 51],
 p 53 (.faddr 0) [.s 52],
 p 54 (.faddr 5) [.s 53],
  ⟨502, false, .store 1, [.s 54, .c (.bool true)], none, [], []⟩]))
 .skip))))))))
def F141 : AFun where
  n := 61
  res := [.cell 2 (some 3), .tmp 3, .tmp 4]
  code := (.seq (.reg [
 p 1 (.box 3) [.s 0],
 p 2 (.zero [et, et, et]) [],
 p 3 .mv [.c et],
 p 4 .mv [.c et]])
 (.seq (.reg [
 p 8 (.load (some 3)) [.s 1],
 p 9 (.call 87) [.s 8],
  ⟨500, false, .store 3, [.s 2, .s 9], none, [], []⟩])
 (.seq (.seq (.reg [
 p 10 (.faddr 2) [.s 1],
 p 11 (.load none) [.s 10],
 p 12 .len [.s 11],
 p 13 .mv [.c zz]])
 (.block 0 (.loop (.seq (.reg [
 p 14 (.bin .lss) [.s 13, .s 12]])
 (.seq (.cond (.s 14) .skip
 (.exit 0))
 (.seq (.block 1 (.seq (.reg [
 p 15 .mv [.s 13],
 p 16 (.iaddr 10) [.s 11, .s 13],
 p 17 (.load (some 10)) [.s 16],
 p 6 (.zero [zz, zz, zz, zz, zz, et, et, (.int .u32 0), et, (.int .u32 0)]) [],
 p 5 .mv [.s 15],
  ⟨501, false, .store 10, [.s 6, .s 17], none, [], []⟩])
 (.seq (.seq (.drw [
  ⟨18, true, .load (some 3), [.s 1], none, [1], []⟩,
 p 19 .mv [.s 5],
 p 20 (.call 88) [.s 18, .s 19],
 p 21 (.un .not) [.s 20],
 p 22 .mv [.s 21],
  ⟨23, true, .faddr 9, [.s 6], (some (22, false)), [], []⟩,
  ⟨24, true, .load none, [.s 23], (some (22, false)), [6], []⟩,
  ⟨25, true, .load (some 10), [.s 6], (some (22, false)), [6], []⟩,
  ⟨26, true, .call 208, [.s 25], (some (22, false)), [], []⟩,
  ⟨27, true, .bin .eql, [.s 24, .s 26], (some (22, false)), [], []⟩,
 p 28 .pick [.s 22, .c (.bool true), .s 27]])
 (.cond (.s 28) (.exit 1)
 .skip))
 (.seq (.reg [
 p 29 (.faddr 0) [.s 6],
 p 30 (.load none) [.s 29],
 p 31 (.faddr 1) [.s 6],
 p 32 (.load (some 2)) [.s 31],
 p 33 (.call 200) [.s 30, .s 32],
 p 7 (.zero [zz, zz, zz, zz, zz, et, et, (.int .u32 0), et, (.int .u32 0)]) [],
  ⟨502, false, .store 10, [.s 7, .s 33], none, [], []⟩])
 (.seq (.seq (.reg [
 p 34 (.faddr 0) [.s 6],
 p 35 (.load none) [.s 34],
 p 36 (.bin .eql) [.s 35, .c (.int .i64 1)]])
 (.cond (.s 36) (.reg [
 p 37 (.faddr 3) [.s 6],
 p 38 (.faddr 0) [.s 37],
 p 39 (.load none) [.s 38],
 p 40 (.faddr 3) [.s 7],
 p 41 (.faddr 0) [.s 40],
  ⟨503, false, .store 1, [.s 41, .s 39], none, [], []⟩])
 .skip))
 (.seq (.drw [
 p 42 (.faddr 2) [.s 2],
  ⟨43, true, .load none, [.s 42], none, [2], []⟩,
 p 44 .mv [.s 5],
  ⟨45, true, .load (some 10), [.s 7], none, [7], []⟩,
  ⟨46, true, .call 199, [.s 45], none, [33], [33]⟩,
  ⟨47, true, .iaddr 10, [.s 43, .s 44], none, [9], []⟩,
  ⟨504, false, .store 10, [.s 47, .s 46], none, [9, 46], [9, 46]⟩])
 (.drw [
 p 48 .mv [.s 3],
 p 49 .mv [.s 5],
 p 50 (.buildSl 1 [zz] 1 [0]) [.s 49],
  ⟨51, true, .app 1 8 [zz], [.s 48, .s 50], none, [50, 51], [50, 51]⟩,
 p 52 .mv [.s 4],
  ⟨53, true, .load (some 10), [.s 6], none, [6], []⟩,
 p 54 (.call 214) [.s 53],
  ⟨55, true, .buildSlL 1 [se] 1 [0], [.s 54], none, [54], [54]⟩,
  ⟨56, true, .app 1 24 [se], [.s 52, .s 55], none, [55, 56], [55, 56]⟩,
 p 3 .mv [.s 51],
 p 4 .mv [.s 56]])))))))
 (.reg [
 p 57 (.bin .add) [.s 13, .c (.int .i64 1)],
 p 13 .mv [.s 57]])))))))
 (.seq (.reg [
 p 58 (.load (some 3)) [.s 2],
 p 59 .mv [.s 3],
 p 60 .mv [.s 4],
  ⟨505, false, .store 3, [.s 2, .s 58], none, [], []⟩,
 p 3 .mv [.s 59],
 p 4 .mv [.s 60]])
 .ret))))
def F142 : AFun where
  n := 19
  res := [.tmp 4]
  code := (.seq (.reg [
 p 4 .mv [.c zz]])
 (.seq (.seq (.reg [
 p 6 .mv [.s 0],
 p 7 .len [.s 6],
 p 8 .mv [.c zz]])
 (.block 0 (.loop (.seq (.reg [
 p 9 (.bin .lss) [.s 8, .s 7]])
 (.seq (.cond (.s 9) .skip
 (.exit 0))
 (.seq (.block 1 (.seq (.reg [
 p 10 .mv [.s 8],
 p 5 .mv [.s 10]])
 (.seq (.reg [
 p 11 .mv [.s 1],
 p 12 .mv [.s 0],
 p 13 .mv [.s 5],
 p 14 (.iaddr 1) [.s 12, .s 13],
 p 15 (.load none) [.s 14],
 p 16 (.bin .eql) [.s 11, .s 15]])
 (.cond (.s 16) (.seq (.reg [
 p 17 .mv [.s 5],
 p 4 .mv [.s 17]])
 .ret)
 .skip))))
 (.reg [
 p 18 (.bin .add) [.s 8, .c (.int .i64 1)],
 p 8 .mv [.s 18]])))))))
 (.seq (.reg [
 p 4 .mv [.c (.int .i64 (-1))]])
 .ret)))
def F143 : AFun where
  n := 22
  res := [.tmp 2]
  code := (.seq (.reg [
 p 1 (.box 3) [.s 0],
 p 2 .mv [.c et]])
 (.seq (.seq (.reg [
 p 5 (.faddr 2) [.s 1],
 p 6 (.load none) [.s 5],
 p 7 .len [.s 6],
 p 8 .mv [.c zz]])
 (.block 0 (.loop (.seq (.reg [
 p 9 (.bin .lss) [.s 8, .s 7]])
 (.seq (.cond (.s 9) .skip
 (.exit 0))
 (.seq (.block 1 (.seq (.reg [
 p 10 .mv [.s 8],
 p 11 (.iaddr 10) [.s 6, .s 8],
 p 12 (.load (some 10)) [.s 11],
 p 4 (.zero [zz, zz, zz, zz, zz, et, et, (.int .u32 0), et, (.int .u32 0)]) [],
 p 3 .mv [.s 10],
  ⟨500, false, .store 10, [.s 4, .s 12], none, [], []⟩])
 (.seq (.reg [
 p 13 (.faddr 0) [.s 4],
 p 14 (.load none) [.s 13],
 p 15 (.bin .eql) [.s 14, .c (.int .i64 1)]])
 (.cond (.s 15) (.reg [
 p 16 .mv [.s 2],
 p 17 .mv [.s 3],
 p 18 (.buildSl 1 [zz] 1 [0]) [.s 17],
 p 19 (.app 1 8 [zz]) [.s 16, .s 18],
 p 2 .mv [.s 19]])
 .skip))))
 (.reg [
 p 20 (.bin .add) [.s 8, .c (.int .i64 1)],
 p 8 .mv [.s 20]])))))))
 (.seq (.reg [
 p 21 .mv [.s 2],
 p 2 .mv [.s 21]])
 .ret)))
def F144 : AFun where
  n := 13
  res := [.cell 4 (some 28)]
  code := (.seq (.reg [
 p 2 (.box 28) [.s 0],
 p 3 (.box 1) [.s 1],
 p 4 (.zero [zz, zz, zz, zz, zz, zz, zz, zz, zz, zz, zz, zz, zz, et, ff, zz, zz, zz, zz, zz, zz, zz, zz, zz, et, ff, et, ff]) []])
 (.seq (.reg [
 p 5 (.load (some 28)) [.s 2],
 p 6 (.call 218) [.s 5],
  ⟨500, false, .store 28, [.s 2, .s 6], none, [], []⟩])
 (.seq (.reg [
 p 7 (.faddr 26) [.s 2],
 p 8 (.load none) [.s 7],
 p 9 (.mkfn 220 0) [.s 3],
 p 10 (.call 219) [.s 8, .s 9],
 p 11 (.faddr 26) [.s 2],
  ⟨501, false, .store 1, [.s 11, .s 10], none, [], []⟩])
 (.seq (.reg [
 p 12 (.load (some 28)) [.s 2],
  ⟨502, false, .store 28, [.s 4, .s 12], none, [], []⟩])
 .ret))))
def F145 : AFun where
  n := 63
  res := [.tmp 6, .tmp 7]
  code := (.seq (.reg [
 p 6 .mv [.c zz],
 p 7 .mv [.c ff]])
 (.seq (.reg [
 p 8 .mv [.c et]])
 (.seq (.seq (.reg [
 p 14 .mv [.s 0],
 p 15 .len [.s 14],
 p 16 .mv [.c zz]])
 (.block 0 (.loop (.seq (.reg [
 p 17 (.bin .lss) [.s 16, .s 15]])
 (.seq (.cond (.s 17) .skip
 (.exit 0))
 (.seq (.block 1 (.seq (.reg [
 p 18 (.iaddr 28) [.s 14, .s 16],
 p 19 (.load (some 28)) [.s 18],
 p 10 (.zero [zz, zz, zz, zz, zz, zz, zz, zz, zz, zz, zz, zz, zz, et, ff, zz, zz, zz, zz, zz, zz, zz, zz, zz, et, ff, et, ff]) [],
  ⟨500, false, .store 28, [.s 10, .s 19], none, [], []⟩])
 (.reg [
 p 20 .mv [.s 8],
 p 21 (.load (some 28)) [.s 10],
 p 22 .mv [.s 1],
 p 23 .mv [.s 2],
 p 24 (.call 221) [.s 21, .s 22, .s 23],
 p 25 (.buildSl 3 [zz, zz, zz] 1 [0]) [.s 24],
 p 26 (.app 3 24 [zz, zz, zz]) [.s 20, .s 25],
 p 8 .mv [.s 26]])))
 (.reg [
 p 27 (.bin .add) [.s 16, .c (.int .i64 1)],
 p 16 .mv [.s 27]])))))))
 (.seq (.seq (.reg [
 p 11 .mv [.c zz]])
 (.block 2 (.loop (.seq (.seq (.reg [
 p 28 .mv [.s 11],
 p 29 .mv [.s 8],
 p 30 .len [.s 29],
 p 31 (.bin .lss) [.s 28, .s 30]])
 (.cond (.s 31) .skip
 (.exit 2)))
 (.seq (.block 3 (.seq (.reg [
 p 34 .mv [.s 8],
 p 35 .mv [.s 11],
 p 36 .mv [.s 11],
 p 37 (.bin .add) [.s 36, .c (.int .i64 64)],
 p 38 .mv [.s 8],
 p 39 .len [.s 38],
 p 40 .least [.s 37, .s 39],
 p 41 (.slice 3 true true) [.s 34, .s 35, .s 40],
 p 12 .mv [.s 41]])
 (.seq (.reg [
 p 42 .mv [.s 11],
 p 43 .mv [.s 12],
 p 44 (.call 222) [.s 43],
 p 45 (.bin .add) [.s 42, .s 44],
 p 13 .mv [.s 45]])
 (.seq (.drw [
 p 46 .mv [.s 7],
 p 47 (.un .not) [.s 46],
 p 48 .mv [.s 47],
  ⟨49, true, .mv, [.s 8], (some (48, false)), [], []⟩,
  ⟨50, true, .mv, [.s 13], (some (48, false)), [], []⟩,
  ⟨51, true, .iaddr 3, [.s 49, .s 50], (some (48, false)), [25, 26], []⟩,
  ⟨52, true, .load (some 3), [.s 51], (some (48, false)), [25, 26], []⟩,
  ⟨53, true, .mv, [.s 8], (some (48, false)), [], []⟩,
  ⟨54, true, .mv, [.s 6], (some (48, false)), [], []⟩,
  ⟨55, true, .iaddr 3, [.s 53, .s 54], (some (48, false)), [25, 26], []⟩,
  ⟨56, true, .load (some 3), [.s 55], (some (48, false)), [25, 26], []⟩,
  ⟨57, true, .call 223, [.s 52, .s 56], (some (48, false)), [], []⟩,
  ⟨58, true, .bin .lss, [.s 57, .c zz], (some (48, false)), [], []⟩,
 p 59 .pick [.s 48, .c (.bool true), .s 58]])
 (.cond (.s 59) (.reg [
 p 60 .mv [.s 13],
 p 6 .mv [.s 60],
 p 7 .mv [.c (.bool true)]])
 .skip)))))
 (.reg [
 p 32 .mv [.s 11],
 p 33 (.bin .add) [.s 32, .c (.int .i64 64)],
 p 11 .mv [.s 33]]))))))
 (.seq (.reg [
 p 61 .mv [.s 6],
 p 62 .mv [.s 7],
 p 6 .mv [.s 61],
 p 7 .mv [.s 62]])
 .ret)))))
def F146 : AFun where
  n := 25
  res := [.tmp 2]
  code := (.seq (.reg [
 p 1 (.box 13) [.s 0],
 p 2 .mv [.c et]])
 (.seq (.seq (.reg [
 p 5 (.faddr 8) [.s 1],
 p 6 (.load (some 3)) [.s 5],
 p 7 (.call 143) [.s 6],
 p 8 .len [.s 7],
 p 9 .mv [.c zz]])
 (.block 0 (.loop (.seq (.reg [
 p 10 (.bin .lss) [.s 9, .s 8]])
 (.seq (.cond (.s 10) .skip
 (.exit 0))
 (.seq (.block 1 (.seq (.reg [
 p 11 (.iaddr 1) [.s 7, .s 9],
 p 12 (.load none) [.s 11],
 p 4 .mv [.s 12]])
 (.reg [
 p 13 .mv [.s 2],
 p 14 (.faddr 8) [.s 1],
 p 15 (.faddr 2) [.s 14],
 p 16 (.load none) [.s 15],
 p 17 .mv [.s 4],
 p 18 (.iaddr 10) [.s 16, .s 17],
 p 19 (.faddr 3) [.s 18],
 p 20 (.load (some 2)) [.s 19],
 p 21 (.buildSl 2 [zz, zz] 1 [0]) [.s 20],
 p 22 (.app 2 16 [zz, zz]) [.s 13, .s 21],
 p 2 .mv [.s 22]])))
 (.reg [
 p 23 (.bin .add) [.s 9, .c (.int .i64 1)],
 p 9 .mv [.s 23]])))))))
 (.seq (.reg [
 p 24 .mv [.s 2],
 p 2 .mv [.s 24]])
 .ret)))
def F147 : AFun where
  n := 92
  res := [.tmp 4]
  code := (.seq (.reg [
 p 4 .mv [.c ff]])
 (.seq (.drw [
 p 13 .mv [.s 0],
 p 14 .nilck [.s 13],
 p 15 (.faddr 0) [.s 14],
 p 16 (.faddr 2) [.s 15],
  ⟨17, true, .load none, [.s 16], none, [0], []⟩,
 p 18 .mv [.s 1],
 p 19 .nilck [.s 18],
 p 20 (.faddr 0) [.s 19],
  ⟨21, true, .load none, [.s 20], none, [1], []⟩,
  ⟨22, true, .iaddr 6, [.s 17, .s 21], none, [0, 59, 81, 90], []⟩,
  ⟨23, true, .load (some 6), [.s 22], none, [0, 59, 81, 90], []⟩,
 p 24 .mv [.s 1],
 p 25 .nilck [.s 24],
  ⟨26, true, .load (some 28), [.s 25], none, [1], []⟩,
  ⟨27, true, .call 224, [.s 23, .s 26], none, [0, 59, 81, 90, 1, 27], [0, 59, 81, 90, 1, 27]⟩,
 p 12 .mv [.s 27],
 p 28 (.extract 0) [.s 12],
 p 29 (.extract 1) [.s 12],
 p 30 (.extract 2) [.s 12],
 p 5 (.zero [zz, zz, zz, zz, zz, zz, zz, zz, zz, zz, zz, zz, zz, et, ff, zz, zz, zz, zz, zz, zz, zz, zz, zz, et, ff, et, ff]) [],
 p 6 (.zero [zz, zz, zz, zz]) [],
  ⟨500, false, .store 28, [.s 5, .s 28], none, [5, 27], [5]⟩,
  ⟨501, false, .store 4, [.s 6, .s 29], none, [6], [6]⟩,
 p 7 .mv [.s 30]])
 (.seq (.seq (.reg [
 p 31 .mv [.s 7],
 p 32 (.un .not) [.s 31]])
 (.cond (.s 32) (.seq (.reg [
 p 4 .mv [.c ff]])
 .ret)
 .skip))
 (.seq (.reg [
 p 33 .mv [.s 1],
 p 34 (.load (some 28)) [.s 5],
 p 35 .nilck [.s 33],
  ⟨502, false, .store 28, [.s 35, .s 34], none, [], []⟩])
 (.seq (.seq (.reg [
 p 36 (.faddr 0) [.s 6],
 p 37 (.load none) [.s 36]])
 (.block 0 (.seq (.reg [
 p 39 (.bin .eql) [.s 37, .c (.int .i64 9)],
 p 38 .mv [.s 39]])
 (.cond (.s 38) (.seq (.drw [
 p 41 .mv [.s 0],
 p 42 .nilck [.s 41],
 p 43 (.faddr 0) [.s 42],
  ⟨44, true, .load (some 13), [.s 43], none, [0], []⟩,
  ⟨45, true, .call 146, [.s 44], none, [0, 59, 81, 90], [0, 59, 81, 90]⟩,
 p 46 (.faddr 1) [.s 6],
  ⟨47, true, .load none, [.s 46], none, [6], []⟩,
 p 48 .mv [.s 1],
 p 49 .nilck [.s 48],
 p 50 (.faddr 0) [.s 49],
  ⟨51, true, .load none, [.s 50], none, [1], []⟩,
  ⟨52, true, .call 225, [.s 45, .s 47, .s 51], none, [45], [45]⟩,
 p 40 .mv [.s 52],
 p 53 (.extract 0) [.s 40],
 p 54 (.extract 1) [.s 40],
 p 8 .mv [.s 53],
 p 9 .mv [.s 54]])
 (.reg [
 p 55 .mv [.s 0],
 p 56 .nilck [.s 55],
 p 57 (.faddr 0) [.s 56],
 p 58 .mv [.s 8],
 p 59 (.call 205) [.s 57, .s 58]]))
 (.seq (.reg [
 p 61 (.bin .eql) [.s 37, .c (.int .i64 10)],
 p 60 .mv [.s 61]])
 (.cond (.s 60) (.seq (.drw [
 p 63 .mv [.s 0],
 p 64 .nilck [.s 63],
 p 65 (.faddr 0) [.s 64],
  ⟨66, true, .load (some 13), [.s 65], none, [0], []⟩,
  ⟨67, true, .call 146, [.s 66], none, [0, 59, 81, 90], [0, 59, 81, 90]⟩,
 p 68 (.faddr 1) [.s 6],
  ⟨69, true, .load none, [.s 68], none, [6], []⟩,
 p 70 .mv [.s 1],
 p 71 .nilck [.s 70],
 p 72 (.faddr 0) [.s 71],
  ⟨73, true, .load none, [.s 72], none, [1], []⟩,
  ⟨74, true, .call 226, [.s 67, .s 69, .s 73], none, [67], [67]⟩,
 p 62 .mv [.s 74],
 p 75 (.extract 0) [.s 62],
 p 76 (.extract 1) [.s 62],
 p 10 .mv [.s 75],
 p 11 .mv [.s 76]])
 (.reg [
 p 77 .mv [.s 0],
 p 78 .nilck [.s 77],
 p 79 (.faddr 0) [.s 78],
 p 80 .mv [.s 10],
 p 81 (.call 205) [.s 79, .s 80]]))
 .skip))))))
 (.seq (.reg [
 p 82 .mv [.s 1],
 p 83 .nilck [.s 82],
 p 84 (.faddr 4) [.s 83],
 p 85 (.faddr 10) [.s 84],
 p 86 (.load none) [.s 85],
 p 87 .mv [.s 86],
  ⟨88, true, .mv, [.s 0], (some (87, true)), [], []⟩,
  ⟨89, true, .mv, [.s 1], (some (87, true)), [], []⟩,
  ⟨90, true, .call 227, [.s 88, .s 89], (some (87, true)), [], []⟩,
 p 91 .pick [.s 87, .s 90, .c ff],
 p 4 .mv [.s 91]])
 .ret))))))
def F148 : AFun where
  n := 50
  res := [.tmp 4]
  code := (.seq (.reg [
 p 4 .mv [.c ff]])
 (.seq (.drw [
 p 9 .mv [.s 0],
 p 10 .nilck [.s 9],
 p 11 (.faddr 0) [.s 10],
 p 12 (.faddr 2) [.s 11],
  ⟨13, true, .load none, [.s 12], none, [0], []⟩,
 p 14 .mv [.s 1],
 p 15 .nilck [.s 14],
 p 16 (.faddr 0) [.s 15],
  ⟨17, true, .load none, [.s 16], none, [1], []⟩,
  ⟨18, true, .iaddr 6, [.s 13, .s 17], none, [0, 39, 47], []⟩,
  ⟨19, true, .load (some 6), [.s 18], none, [0, 39, 47], []⟩,
 p 20 .mv [.s 1],
 p 21 .nilck [.s 20],
  ⟨22, true, .load (some 28), [.s 21], none, [1], []⟩,
 p 23 .mv [.s 0],
 p 24 .nilck [.s 23],
 p 25 (.faddr 0) [.s 24],
  ⟨26, true, .load (some 13), [.s 25], none, [0], []⟩,
  ⟨27, true, .call 146, [.s 26], none, [0, 39, 47], []⟩,
  ⟨28, true, .call 228, [.s 19, .s 22, .s 27], none, [0, 39, 47, 1, 28, 27], [0, 39, 47, 1, 28, 27]⟩,
 p 8 .mv [.s 28],
 p 29 (.extract 0) [.s 8],
 p 30 (.extract 1) [.s 8],
 p 31 (.extract 2) [.s 8],
 p 5 (.zero [zz, zz, zz, zz, zz, zz, zz, zz, zz, zz, zz, zz, zz, et, ff, zz, zz, zz, zz, zz, zz, zz, zz, zz, et, ff, et, ff]) [],
  ⟨500, false, .store 28, [.s 5, .s 29], none, [5, 28], [5]⟩,
 p 6 .mv [.s 30],
 p 7 .mv [.s 31]])
 (.seq (.reg [
 p 32 .mv [.s 1],
 p 33 (.load (some 28)) [.s 5],
 p 34 .nilck [.s 32],
  ⟨501, false, .store 28, [.s 34, .s 33], none, [], []⟩])
 (.seq (.reg [
 p 35 .mv [.s 0],
 p 36 .nilck [.s 35],
 p 37 (.faddr 0) [.s 36],
 p 38 .mv [.s 6],
 p 39 (.call 205) [.s 37, .s 38]])
 (.seq (.reg [
 p 40 .mv [.s 0],
 p 41 .mv [.s 7],
 p 42 .mv [.s 1],
 p 43 .nilck [.s 42],
 p 44 (.faddr 0) [.s 43],
 p 45 (.load none) [.s 44],
 p 46 (.build [zz, zz, zz, zz, zz, zz] [(1, 1), (2, 1)]) [.s 41, .s 45],
 p 47 (.call 139) [.s 40, .s 46]])
 (.seq (.reg [
 p 48 .mv [.s 7],
 p 49 (.bin .eql) [.s 48, .c (.int .i64 13)],
 p 4 .mv [.s 49]])
 .ret))))))
def F149 : AFun := cloneOf 1 1 [ff]
def F150 : AFun where
  n := 20
  res := [.cell 2 (some 10)]
  code := (.seq (.reg [
 p 1 (.box 10) [.s 0],
 p 2 (.zero [zz, zz, zz, zz, zz, et, et, (.int .u32 0), et, (.int .u32 0)]) []])
 (.seq (.drw [
 p 3 (.faddr 5) [.s 1],
 p 4 (.faddr 0) [.s 3],
  ⟨5, true, .load none, [.s 4], none, [1], []⟩,
  ⟨6, true, .call 229, [.s 5], none, [6, 10, 16], [6, 10, 16]⟩,
 p 7 (.faddr 5) [.s 1],
 p 8 (.faddr 1) [.s 7],
  ⟨9, true, .load none, [.s 8], none, [1], []⟩,
  ⟨10, true, .call 137, [.s 9], none, [6, 10, 16], [6, 10, 16]⟩,
  ⟨11, true, .build [et, et] [(0, 1), (1, 1)], [.s 6, .s 10], none, [6, 10], []⟩,
 p 12 (.faddr 5) [.s 1],
  ⟨500, false, .store 2, [.s 12, .s 11], none, [1, 6, 10], [1]⟩])
 (.seq (.reg [
 p 13 (.faddr 7) [.s 1],
 p 14 (.faddr 1) [.s 13],
 p 15 (.load none) [.s 14],
 p 16 (.call 210) [.s 15],
 p 17 (.faddr 7) [.s 1],
 p 18 (.faddr 1) [.s 17],
  ⟨501, false, .store 1, [.s 18, .s 16], none, [], []⟩])
 (.seq (.reg [
 p 19 (.load (some 10)) [.s 1],
  ⟨502, false, .store 10, [.s 2, .s 19], none, [], []⟩])
 .ret))))
def F151 : AFun where
  n := 49
  res := [.tmp 6, .tmp 7]
  code := (.seq (.reg [
 p 6 .mv [.c zz],
 p 7 .mv [.c ff]])
 (.seq (.reg [
 p 12 .mv [.s 0],
 p 13 .len [.s 12],
 p 8 .mv [.s 13]])
 (.seq (.reg [
 p 14 .mv [.s 8],
 p 9 .mv [.c zz],
 p 10 .mv [.s 14]])
 (.seq (.block 0 (.loop (.seq (.seq (.reg [
 p 15 .mv [.s 9],
 p 16 .mv [.s 10],
 p 17 (.bin .lss) [.s 15, .s 16]])
 (.cond (.s 17) .skip
 (.exit 0)))
 (.block 1 (.seq (.reg [
 p 18 .mv [.s 9],
 p 19 .mv [.s 10],
 p 20 (.bin .add) [.s 18, .s 19],
 p 21 (.conv .u64) [.s 20],
 p 22 (.bin .shr) [.s 21, .c (.int .u64 1)],
 p 23 (.conv .i64) [.s 22],
 p 11 .mv [.s 23]])
 (.seq (.reg [
 p 24 .mv [.s 2],
 p 25 .mv [.s 0],
 p 26 .mv [.s 11],
 p 27 (.iaddr 28) [.s 25, .s 26],
 p 28 (.load (some 28)) [.s 27],
 p 29 .mv [.s 1],
 p 30 .callv [.s 24, .s 28, .s 29],
 p 31 (.bin .lss) [.s 30, .c zz]])
 (.cond (.s 31) (.reg [
 p 32 .mv [.s 11],
 p 33 (.bin .add) [.s 32, .c (.int .i64 1)],
 p 9 .mv [.s 33]])
 (.reg [
 p 34 .mv [.s 11],
 p 10 .mv [.s 34]]))))))))
 (.seq (.reg [
 p 35 .mv [.s 9],
 p 36 .mv [.s 9],
 p 37 .mv [.s 8],
 p 38 (.bin .lss) [.s 36, .s 37],
 p 39 .mv [.s 38],
  ⟨40, true, .mv, [.s 2], (some (39, true)), [], []⟩,
  ⟨41, true, .mv, [.s 0], (some (39, true)), [], []⟩,
  ⟨42, true, .mv, [.s 9], (some (39, true)), [], []⟩,
  ⟨43, true, .iaddr 28, [.s 41, .s 42], (some (39, true)), [], []⟩,
  ⟨44, true, .load (some 28), [.s 43], (some (39, true)), [], []⟩,
  ⟨45, true, .mv, [.s 1], (some (39, true)), [], []⟩,
  ⟨46, true, .callv, [.s 40, .s 44, .s 45], (some (39, true)), [], []⟩,
  ⟨47, true, .bin .eql, [.s 46, .c zz], (some (39, true)), [], []⟩,
 p 48 .pick [.s 39, .s 47, .c ff],
 p 6 .mv [.s 35],
 p 7 .mv [.s 48]])
 .ret)))))
def F152 : AFun where
  n := 9
  res := [.tmp 4]
  code := (.seq (.reg [
 p 2 (.box 28) [.s 0],
 p 4 .mv [.c zz]])
 (.seq (.reg [
 p 5 (.faddr 0) [.s 2],
 p 6 (.load none) [.s 5],
 p 7 .mv [.s 1],
 p 8 (.bin .sub) [.s 6, .s 7],
 p 4 .mv [.s 8]])
 .ret))
def F154 : AFun where
  n := 10
  res := []
  code := (.reg [
 p 4 .mv [.s 0],
 p 5 .mv [.s 0],
 p 6 .len [.s 5],
 p 7 .mv [.s 1],
 p 8 (.bin .sub) [.s 6, .s 7],
 p 9 (.call 230) [.s 4, .s 8]])
def F155 : AFun where
  n := 7
  res := [.cell 2 (some 11)]
  code := (.seq (.reg [
 p 2 (.zero [zz, zz, zz, zz, zz, zz, zz, zz, zz, et, ff]) []])
 (.seq (.reg [
 p 3 .mv [.s 0],
 p 4 (.faddr 1) [.s 2],
 p 5 (.iaddrA 8 1) [.s 4, .c zz],
  ⟨500, false, .store 1, [.s 5, .s 3], none, [], []⟩])
 (.seq (.reg [
 p 6 (.load (some 11)) [.s 2],
  ⟨501, false, .store 11, [.s 2, .s 6], none, [], []⟩])
 .ret)))
def F158 : AFun where
  n := 13
  res := [.tmp 4]
  code := (.seq (.reg [
 p 2 (.box 1) [.s 0],
 p 4 .mv [.c ff]])
 (.seq (.reg [
 p 5 .mv [.s 1],
 p 6 (.bin .geq) [.s 5, .c zz],
 p 7 .mv [.s 6],
  ⟨8, true, .mv, [.s 1], (some (7, true)), [], []⟩,
  ⟨9, true, .faddr 0, [.s 2], (some (7, true)), [], []⟩,
  ⟨10, true, .load none, [.s 9], (some (7, true)), [], []⟩,
  ⟨11, true, .bin .lss, [.s 8, .s 10], (some (7, true)), [], []⟩,
 p 12 .pick [.s 7, .s 11, .c ff],
 p 4 .mv [.s 12]])
 .ret))
def F160 : AFun where
  n := 103
  res := [.tmp 2]
  code := (.seq (.reg [
 p 1 (.box 6) [.s 0],
 p 2 .mv [.c zz]])
 (.seq (.reg [
 p 10 (.faddr 3) [.s 1],
 p 11 (.load none) [.s 10],
 p 12 (.call 231) [.s 11],
 p 9 .mv [.s 12],
 p 13 (.extract 0) [.s 9],
 p 14 (.extract 1) [.s 9],
 p 3 (.zero [zz, zz, et]) [],
  ⟨500, false, .store 3, [.s 3, .s 13], none, [], []⟩,
 p 4 .mv [.s 14]])
 (.seq (.reg [
 p 16 (.faddr 4) [.s 1],
 p 17 (.load none) [.s 16],
 p 18 (.call 231) [.s 17],
 p 15 .mv [.s 18],
 p 19 (.extract 0) [.s 15],
 p 20 (.extract 1) [.s 15],
 p 5 (.zero [zz, zz, et]) [],
  ⟨501, false, .store 3, [.s 5, .s 19], none, [], []⟩,
 p 6 .mv [.s 20]])
 (.seq (.reg [
 p 22 (.faddr 5) [.s 1],
 p 23 (.load none) [.s 22],
 p 24 (.call 231) [.s 23],
 p 21 .mv [.s 24],
 p 25 (.extract 0) [.s 21],
 p 26 (.extract 1) [.s 21],
 p 7 (.zero [zz, zz, et]) [],
  ⟨502, false, .store 3, [.s 7, .s 25], none, [], []⟩,
 p 8 .mv [.s 26]])
 (.seq (.block 0 (.seq (.reg [
 p 28 (.faddr 0) [.s 1],
 p 29 (.load none) [.s 28],
 p 30 (.bin .lss) [.s 29, .c zz],
 p 31 .mv [.s 30],
  ⟨32, true, .faddr 0, [.s 1], (some (31, false)), [], []⟩,
  ⟨33, true, .load none, [.s 32], (some (31, false)), [], []⟩,
  ⟨34, true, .bin .gtr, [.s 33, .c (.int .i64 63)], (some (31, false)), [], []⟩,
 p 35 .pick [.s 31, .c (.bool true), .s 34],
 p 27 .mv [.s 35]])
 (.cond (.s 27) (.seq (.reg [
 p 2 .mv [.c (.int .i64 1)]])
 .ret)
 (.seq (.reg [
 p 37 (.faddr 1) [.s 1],
 p 38 (.load none) [.s 37],
 p 39 (.bin .lss) [.s 38, .c (.int .i64 1)],
 p 40 .mv [.s 39],
  ⟨41, true, .faddr 1, [.s 1], (some (40, false)), [], []⟩,
  ⟨42, true, .load none, [.s 41], (some (40, false)), [], []⟩,
  ⟨43, true, .bin .gtr, [.s 42, .c (.int .i64 16384)], (some (40, false)), [], []⟩,
 p 44 .pick [.s 40, .c (.bool true), .s 43],
 p 45 .mv [.s 44],
  ⟨46, true, .faddr 2, [.s 1], (some (45, false)), [], []⟩,
  ⟨47, true, .load none, [.s 46], (some (45, false)), [], []⟩,
  ⟨48, true, .bin .lss, [.s 47, .c (.int .i64 1)], (some (45, false)), [], []⟩,
 p 49 .pick [.s 45, .c (.bool true), .s 48],
 p 50 .mv [.s 49],
  ⟨51, true, .faddr 2, [.s 1], (some (50, false)), [], []⟩,
  ⟨52, true, .load none, [.s 51], (some (50, false)), [], []⟩,
  ⟨53, true, .faddr 1, [.s 1], (some (50, false)), [], []⟩,
  ⟨54, true, .load none, [.s 53], (some (50, false)), [], []⟩,
  ⟨55, true, .bin .gtr, [.s 52, .s 54], (some (50, false)), [], []⟩,
 p 56 .pick [.s 50, .c (.bool true), .s 55],
 p 36 .mv [.s 56]])
 (.cond (.s 36) (.seq (.reg [
 p 2 .mv [.c (.int .i64 9)]])
 .ret)
 (.seq (.reg [
 p 58 .mv [.s 4],
 p 59 (.un .not) [.s 58],
 p 60 .mv [.s 59],
  ⟨61, true, .faddr 4, [.s 1], (some (60, false)), [], []⟩,
  ⟨62, true, .load none, [.s 61], (some (60, false)), [], []⟩,
  ⟨63, true, .len, [.s 62], (some (60, false)), [], []⟩,
  ⟨64, true, .bin .gtr, [.s 63, .c zz], (some (60, false)), [], []⟩,
  ⟨65, true, .mv, [.s 64], (some (60, false)), [], []⟩,
  ⟨66, true, .mv, [.s 6], (some (65, true)), [], []⟩,
  ⟨67, true, .un .not, [.s 66], (some (65, true)), [], []⟩,
  ⟨68, true, .pick, [.s 65, .s 67, .c ff], (some (60, false)), [], []⟩,
 p 69 .pick [.s 60, .c (.bool true), .s 68],
 p 70 .mv [.s 69],
  ⟨71, true, .faddr 5, [.s 1], (some (70, false)), [], []⟩,
  ⟨72, true, .load none, [.s 71], (some (70, false)), [], []⟩,
  ⟨73, true, .len, [.s 72], (some (70, false)), [], []⟩,
  ⟨74, true, .bin .gtr, [.s 73, .c zz], (some (70, false)), [], []⟩,
  ⟨75, true, .mv, [.s 74], (some (70, false)), [], []⟩,
  ⟨76, true, .mv, [.s 8], (some (75, true)), [], []⟩,
  ⟨77, true, .un .not, [.s 76], (some (75, true)), [], []⟩,
  ⟨78, true, .mv, [.s 77], (some (75, true)), [], []⟩,
  ⟨79, true, .faddr 5, [.s 1], (some (78, false)), [], []⟩,
  ⟨80, true, .load none, [.s 79], (some (78, false)), [], []⟩,
  ⟨81, true, .call 232, [.s 80], (some (78, false)), [], []⟩,
  ⟨82, true, .pick, [.s 78, .c (.bool true), .s 81], (some (75, true)), [], []⟩,
  ⟨83, true, .pick, [.s 75, .s 82, .c ff], (some (70, false)), [], []⟩,
 p 84 .pick [.s 70, .c (.bool true), .s 83],
 p 57 .mv [.s 84]])
 (.cond (.s 57) (.seq (.reg [
 p 2 .mv [.c (.int .i64 2)]])
 .ret)
 (.seq (.reg [
 p 86 (.faddr 0) [.s 3],
 p 87 (.load none) [.s 86],
 p 88 (.faddr 2) [.s 1],
 p 89 (.load none) [.s 88],
 p 90 (.bin .gtr) [.s 87, .s 89],
 p 85 .mv [.s 90]])
 (.cond (.s 85) (.seq (.reg [
 p 2 .mv [.c (.int .i64 10)]])
 .ret)
 (.seq (.reg [
 p 92 (.faddr 4) [.s 1],
 p 93 (.load none) [.s 92],
 p 94 .len [.s 93],
 p 95 (.bin .gtr) [.s 94, .c zz],
 p 96 .mv [.s 95],
  ⟨97, true, .faddr 0, [.s 5], (some (96, true)), [], []⟩,
  ⟨98, true, .load none, [.s 97], (some (96, true)), [], []⟩,
  ⟨99, true, .faddr 0, [.s 3], (some (96, true)), [], []⟩,
  ⟨100, true, .load none, [.s 99], (some (96, true)), [], []⟩,
  ⟨101, true, .bin .gtr, [.s 98, .s 100], (some (96, true)), [], []⟩,
 p 102 .pick [.s 96, .s 101, .c ff],
 p 91 .mv [.s 102]])
 (.cond (.s 91) (.seq (.reg [
 p 2 .mv [.c (.int .i64 12)]])
 .ret)
 .skip)))))))))))
 (.seq (.reg [
 p 2 .mv [.c zz]])
 .ret))))))
def F161 : AFun where
  n := 65
  res := [.tmp 4, .tmp 5]
  code := (.seq (.reg [
 p 4 .mv [.c et],
 p 5 .mv [.c zz]])
 (.seq (.seq (.reg [
 p 14 .mv [.s 0],
 p 15 (.call 233) [.s 14],
 p 16 (.un .not) [.s 15],
 p 17 .mv [.s 16],
  ⟨18, true, .mv, [.s 1], (some (17, false)), [], []⟩,
  ⟨19, true, .bin .lss, [.s 18, .c (.int .i64 1)], (some (17, false)), [], []⟩,
 p 20 .pick [.s 17, .c (.bool true), .s 19]])
 (.cond (.s 20) (.seq (.reg [
 p 4 .mv [.c et],
 p 5 .mv [.c (.int .i64 1)]])
 .ret)
 .skip))
 (.seq (.reg [
 p 6 .mv [.c et]])
 (.seq (.seq (.reg [
 p 7 .mv [.c zz]])
 (.block 0 (.loop (.seq (.seq (.reg [
 p 21 .mv [.s 7],
 p 22 .mv [.s 0],
 p 23 .len [.s 22],
 p 24 (.bin .lss) [.s 21, .s 23]])
 (.cond (.s 24) .skip
 (.exit 0)))
 (.seq (.block 1 (.seq (.reg [
 p 28 .mv [.s 0],
 p 29 .mv [.s 7],
 p 30 .mv [.s 1],
 p 31 (.call 234) [.s 28, .s 29, .s 30],
 p 27 .mv [.s 31],
 p 32 (.extract 0) [.s 27],
 p 33 (.extract 1) [.s 27],
 p 34 (.extract 2) [.s 27],
 p 8 .mv [.s 32],
 p 9 .mv [.s 33],
 p 10 .mv [.s 34]])
 (.seq (.seq (.reg [
 p 35 .mv [.s 10],
 p 36 (.bin .neq) [.s 35, .c zz]])
 (.cond (.s 36) (.seq (.reg [
 p 37 .mv [.s 10],
 p 4 .mv [.c et],
 p 5 .mv [.s 37]])
 .ret)
 .skip))
 (.seq (.reg [
 p 39 .mv [.s 0],
 p 40 .mv [.s 7],
 p 41 (.iaddr 6) [.s 39, .s 40],
 p 42 (.load (some 6)) [.s 41],
 p 43 (.call 235) [.s 42],
 p 38 .mv [.s 43],
 p 44 (.extract 0) [.s 38],
 p 45 (.extract 1) [.s 38],
 p 46 (.extract 2) [.s 38],
 p 11 .mv [.s 44],
 p 12 .mv [.s 45],
 p 13 .mv [.s 46]])
 (.drw [
 p 47 .mv [.s 6],
 p 48 .mv [.s 11],
 p 49 .mv [.s 12],
 p 50 .mv [.s 0],
 p 51 .mv [.s 7],
 p 52 (.call 236) [.s 50, .s 51],
 p 53 .mv [.s 8],
 p 54 .mv [.s 0],
 p 55 .mv [.s 7],
 p 56 (.iaddr 6) [.s 54, .s 55],
 p 57 (.faddr 2) [.s 56],
 p 58 (.load none) [.s 57],
 p 59 .mv [.s 8],
 p 60 (.bin .sub) [.s 58, .s 59],
 p 61 (.build [zz, zz, zz, zz, zz] [(0, 1), (1, 1), (2, 1), (3, 1), (4, 1)]) [.s 48, .s 49, .s 52, .s 53, .s 60],
 p 62 (.buildSl 5 [zz, zz, zz, zz, zz] 1 [0]) [.s 61],
  ⟨63, true, .app 5 40 [zz, zz, zz, zz, zz], [.s 47, .s 62], none, [62, 63], [62, 63]⟩,
 p 6 .mv [.s 63]])))))
 (.reg [
 p 25 .mv [.s 7],
 p 26 (.bin .add) [.s 25, .c (.int .i64 1)],
 p 7 .mv [.s 26]]))))))
 (.seq (.reg [
 p 64 .mv [.s 6],
 p 4 .mv [.s 64],
 p 5 .mv [.c zz]])
 .ret)))))
def F165 : AFun where
  n := 49
  res := [.tmp 4]
  code := (.seq (.reg [
 p 4 .mv [.c zz]])
 (.seq (.seq (.reg [
 p 5 .mv [.c zz]])
 (.block 0 (.loop (.seq (.seq (.reg [
 p 8 .mv [.s 5],
 p 9 .mv [.s 0],
 p 10 .len [.s 9],
 p 11 (.bin .lss) [.s 8, .s 10]])
 (.cond (.s 11) .skip
 (.exit 0)))
 (.seq (.block 1 (.seq (.drw [
 p 14 (.buildSl 4 [zz, zz, zz, zz] 0 []) [],
 p 15 .mv [.s 0],
 p 16 .mv [.s 5],
 p 17 (.iaddr 6) [.s 15, .s 16],
 p 18 (.faddr 3) [.s 17],
 p 19 (.load none) [.s 18],
  ⟨20, true, .app 4 32 [zz, zz, zz, zz], [.s 14, .s 19], none, [14], [14]⟩,
 p 21 .mv [.s 0],
 p 22 .mv [.s 5],
 p 23 (.iaddr 6) [.s 21, .s 22],
 p 24 (.faddr 4) [.s 23],
 p 25 (.load none) [.s 24],
  ⟨26, true, .app 4 32 [zz, zz, zz, zz], [.s 20, .s 25], none, [14, 20], [14, 20]⟩,
 p 6 .mv [.s 26]])
 (.seq (.reg [
 p 7 .mv [.c zz]])
 (.block 2 (.loop (.seq (.seq (.reg [
 p 27 .mv [.s 7],
 p 28 .mv [.s 6],
 p 29 .len [.s 28],
 p 30 (.bin .lss) [.s 27, .s 29]])
 (.cond (.s 30) .skip
 (.exit 2)))
 (.seq (.block 3 (.seq (.reg [
 p 33 .mv [.s 6],
 p 34 .mv [.s 7],
 p 35 (.iaddr 4) [.s 33, .s 34],
 p 36 (.faddr 0) [.s 35],
 p 37 (.load none) [.s 36],
 p 38 (.bin .eql) [.s 37, .c (.int .i64 9)],
 p 39 .mv [.s 38],
  ⟨40, true, .mv, [.s 6], (some (39, true)), [], []⟩,
  ⟨41, true, .mv, [.s 7], (some (39, true)), [], []⟩,
  ⟨42, true, .iaddr 4, [.s 40, .s 41], (some (39, true)), [], []⟩,
  ⟨43, true, .faddr 1, [.s 42], (some (39, true)), [], []⟩,
  ⟨44, true, .load none, [.s 43], (some (39, true)), [], []⟩,
  ⟨45, true, .mv, [.s 1], (some (39, true)), [], []⟩,
  ⟨46, true, .bin .eql, [.s 44, .s 45], (some (39, true)), [], []⟩,
 p 47 .pick [.s 39, .s 46, .c ff]])
 (.cond (.s 47) (.seq (.reg [
 p 48 .mv [.s 5],
 p 4 .mv [.s 48]])
 .ret)
 .skip)))
 (.reg [
 p 31 .mv [.s 7],
 p 32 (.bin .add) [.s 31, .c (.int .i64 1)],
 p 7 .mv [.s 32]]))))))))
 (.reg [
 p 12 .mv [.s 5],
 p 13 (.bin .add) [.s 12, .c (.int .i64 1)],
 p 5 .mv [.s 13]]))))))
 (.seq (.reg [
 p 4 .mv [.c (.int .i64 8)]])
 .ret)))
def F190 : AFun where
  n := 26
  res := [.tmp 4]
  code := (.seq (.reg [
 p 4 .mv [.c ff]])
 (.seq (.seq (.reg [
 p 6 .mv [.s 0],
 p 7 .len [.s 6],
 p 8 .mv [.s 1],
 p 9 .len [.s 8],
 p 10 (.bin .neq) [.s 7, .s 9]])
 (.cond (.s 10) (.seq (.reg [
 p 4 .mv [.c ff]])
 .ret)
 .skip))
 (.seq (.seq (.reg [
 p 5 .mv [.c zz]])
 (.block 0 (.loop (.seq (.seq (.reg [
 p 11 .mv [.s 5],
 p 12 .mv [.s 0],
 p 13 .len [.s 12],
 p 14 (.bin .lss) [.s 11, .s 13]])
 (.cond (.s 14) .skip
 (.exit 0)))
 (.seq (.block 1 (.seq (.drw [
 p 17 .mv [.s 0],
 p 18 .mv [.s 5],
 p 19 (.iaddr 2) [.s 17, .s 18],
 p 20 (.load (some 2)) [.s 19],
 p 21 .mv [.s 1],
 p 22 .mv [.s 5],
 p 23 (.iaddr 2) [.s 21, .s 22],
 p 24 (.load (some 2)) [.s 23],
 p 25 (.eqv true [some .i64, some .u32] true) [.s 20, .s 24]])
 (.cond (.s 25) (.seq (.reg [
 p 4 .mv [.c ff]])
 .ret)
 .skip)))
 (.reg [
 p 15 .mv [.s 5],
 p 16 (.bin .add) [.s 15, .c (.int .i64 1)],
 p 5 .mv [.s 16]]))))))
 (.seq (.reg [
 p 4 .mv [.c (.bool true)]])
 .ret))))
def F191 : AFun where
  n := 129
  res := [.tmp 2]
  code := (.seq (.reg [
 p 1 (.box 4) [.s 0],
 p 2 .mv [.c ff]])
 (.seq (.seq (.reg [
 p 3 (.faddr 0) [.s 1],
 p 4 (.load none) [.s 3]])
 (.block 0 (.seq (.seq (.reg [
 p 6 (.bin .eql) [.s 4, .c zz],
 p 5 .mv [.s 6]])
 (.cond (.s 5) .skip
 (.reg [
 p 7 (.bin .eql) [.s 4, .c (.int .i64 11)],
 p 5 .mv [.s 7]])))
 (.cond (.s 5) (.seq (.reg [
 p 8 (.faddr 1) [.s 1],
 p 9 (.load none) [.s 8],
 p 10 (.bin .eql) [.s 9, .c zz],
 p 11 .mv [.s 10],
  ⟨12, true, .faddr 2, [.s 1], (some (11, true)), [], []⟩,
  ⟨13, true, .load none, [.s 12], (some (11, true)), [], []⟩,
  ⟨14, true, .bin .eql, [.s 13, .c zz], (some (11, true)), [], []⟩,
 p 15 .pick [.s 11, .s 14, .c ff],
 p 16 .mv [.s 15],
  ⟨17, true, .faddr 3, [.s 1], (some (16, true)), [], []⟩,
  ⟨18, true, .load none, [.s 17], (some (16, true)), [], []⟩,
  ⟨19, true, .bin .eql, [.s 18, .c zz], (some (16, true)), [], []⟩,
 p 20 .pick [.s 16, .s 19, .c ff],
 p 2 .mv [.s 20]])
 .ret)
 (.seq (.reg [
 p 22 (.bin .eql) [.s 4, .c (.int .i64 1)],
 p 21 .mv [.s 22]])
 (.cond (.s 21) (.seq (.reg [
 p 23 (.faddr 1) [.s 1],
 p 24 (.load none) [.s 23],
 p 25 (.call 246) [.s 24],
 p 26 .mv [.s 25],
  ⟨27, true, .faddr 2, [.s 1], (some (26, true)), [], []⟩,
  ⟨28, true, .load none, [.s 27], (some (26, true)), [], []⟩,
  ⟨29, true, .bin .eql, [.s 28, .c zz], (some (26, true)), [], []⟩,
 p 30 .pick [.s 26, .s 29, .c ff],
 p 31 .mv [.s 30],
  ⟨32, true, .faddr 3, [.s 1], (some (31, true)), [], []⟩,
  ⟨33, true, .load none, [.s 32], (some (31, true)), [], []⟩,
  ⟨34, true, .call 247, [.s 33, .c (.int .i64 (-2147483648)), .c (.int .i64 2147483647)], (some (31, true)), [], []⟩,
 p 35 .pick [.s 31, .s 34, .c ff],
 p 2 .mv [.s 35]])
 .ret)
 (.seq (.seq (.reg [
 p 37 (.bin .eql) [.s 4, .c (.int .i64 2)],
 p 36 .mv [.s 37]])
 (.cond (.s 36) .skip
 (.seq (.reg [
 p 38 (.bin .eql) [.s 4, .c (.int .i64 3)],
 p 36 .mv [.s 38]])
 (.cond (.s 36) .skip
 (.reg [
 p 39 (.bin .eql) [.s 4, .c (.int .i64 4)],
 p 36 .mv [.s 39]])))))
 (.cond (.s 36) (.seq (.reg [
 p 40 (.faddr 1) [.s 1],
 p 41 (.load none) [.s 40],
 p 42 (.call 246) [.s 41],
 p 43 .mv [.s 42],
  ⟨44, true, .faddr 2, [.s 1], (some (43, true)), [], []⟩,
  ⟨45, true, .load none, [.s 44], (some (43, true)), [], []⟩,
  ⟨46, true, .call 246, [.s 45], (some (43, true)), [], []⟩,
 p 47 .pick [.s 43, .s 46, .c ff],
 p 48 .mv [.s 47],
  ⟨49, true, .faddr 3, [.s 1], (some (48, true)), [], []⟩,
  ⟨50, true, .load none, [.s 49], (some (48, true)), [], []⟩,
  ⟨51, true, .bin .eql, [.s 50, .c zz], (some (48, true)), [], []⟩,
 p 52 .pick [.s 48, .s 51, .c ff],
 p 2 .mv [.s 52]])
 .ret)
 (.seq (.reg [
 p 54 (.bin .eql) [.s 4, .c (.int .i64 5)],
 p 53 .mv [.s 54]])
 (.cond (.s 53) (.seq (.reg [
 p 55 (.faddr 1) [.s 1],
 p 56 (.load none) [.s 55],
 p 57 (.call 246) [.s 56],
 p 58 .mv [.s 57],
  ⟨59, true, .faddr 2, [.s 1], (some (58, true)), [], []⟩,
  ⟨60, true, .load none, [.s 59], (some (58, true)), [], []⟩,
  ⟨61, true, .bin .eql, [.s 60, .c zz], (some (58, true)), [], []⟩,
 p 62 .pick [.s 58, .s 61, .c ff],
 p 63 .mv [.s 62],
  ⟨64, true, .faddr 3, [.s 1], (some (63, true)), [], []⟩,
  ⟨65, true, .load none, [.s 64], (some (63, true)), [], []⟩,
  ⟨66, true, .call 247, [.s 65, .c (.int .i64 (-63)), .c (.int .i64 63)], (some (63, true)), [], []⟩,
 p 67 .pick [.s 63, .s 66, .c ff],
 p 2 .mv [.s 67]])
 .ret)
 (.seq (.reg [
 p 69 (.bin .eql) [.s 4, .c (.int .i64 6)],
 p 68 .mv [.s 69]])
 (.cond (.s 68) (.seq (.reg [
 p 70 (.faddr 1) [.s 1],
 p 71 (.load none) [.s 70],
 p 72 (.call 246) [.s 71],
 p 73 .mv [.s 72],
  ⟨74, true, .faddr 2, [.s 1], (some (73, true)), [], []⟩,
  ⟨75, true, .load none, [.s 74], (some (73, true)), [], []⟩,
  ⟨76, true, .bin .eql, [.s 75, .c zz], (some (73, true)), [], []⟩,
 p 77 .pick [.s 73, .s 76, .c ff],
 p 78 .mv [.s 77],
  ⟨79, true, .faddr 3, [.s 1], (some (78, true)), [], []⟩,
  ⟨80, true, .load none, [.s 79], (some (78, true)), [], []⟩,
  ⟨81, true, .call 247, [.s 80, .c (.int .i64 1), .c (.int .i64 64)], (some (78, true)), [], []⟩,
 p 82 .pick [.s 78, .s 81, .c ff],
 p 2 .mv [.s 82]])
 .ret)
 (.seq (.reg [
 p 84 (.bin .eql) [.s 4, .c (.int .i64 7)],
 p 83 .mv [.s 84]])
 (.cond (.s 83) (.seq (.reg [
 p 85 (.faddr 1) [.s 1],
 p 86 (.load none) [.s 85],
 p 87 (.call 246) [.s 86],
 p 88 .mv [.s 87],
  ⟨89, true, .faddr 2, [.s 1], (some (88, true)), [], []⟩,
  ⟨90, true, .load none, [.s 89], (some (88, true)), [], []⟩,
  ⟨91, true, .bin .eql, [.s 90, .c zz], (some (88, true)), [], []⟩,
 p 92 .pick [.s 88, .s 91, .c ff],
 p 93 .mv [.s 92],
  ⟨94, true, .faddr 3, [.s 1], (some (93, true)), [], []⟩,
  ⟨95, true, .load none, [.s 94], (some (93, true)), [], []⟩,
  ⟨96, true, .call 247, [.s 95, .c (.int .i64 1), .c (.int .i64 24)], (some (93, true)), [], []⟩,
 p 97 .pick [.s 93, .s 96, .c ff],
 p 2 .mv [.s 97]])
 .ret)
 (.seq (.reg [
 p 99 (.bin .eql) [.s 4, .c (.int .i64 8)],
 p 98 .mv [.s 99]])
 (.cond (.s 98) (.seq (.reg [
 p 100 (.faddr 1) [.s 1],
 p 101 (.load none) [.s 100],
 p 102 (.bin .eql) [.s 101, .c zz],
 p 103 .mv [.s 102],
  ⟨104, true, .faddr 2, [.s 1], (some (103, true)), [], []⟩,
  ⟨105, true, .load none, [.s 104], (some (103, true)), [], []⟩,
  ⟨106, true, .call 247, [.s 105, .c (.int .i64 1), .c (.int .i64 24)], (some (103, true)), [], []⟩,
 p 107 .pick [.s 103, .s 106, .c ff],
 p 108 .mv [.s 107],
  ⟨109, true, .faddr 3, [.s 1], (some (108, true)), [], []⟩,
  ⟨110, true, .load none, [.s 109], (some (108, true)), [], []⟩,
  ⟨111, true, .call 247, [.s 110, .c (.int .i64 1), .c (.int .i64 20)], (some (108, true)), [], []⟩,
 p 112 .pick [.s 108, .s 111, .c ff],
 p 2 .mv [.s 112]])
 .ret)
 (.seq (.seq (.reg [
 p 114 (.bin .eql) [.s 4, .c (.int .i64 9)],
 p 113 .mv [.s 114]])
 (.cond (.s 113) .skip
 (.reg [
 p 115 (.bin .eql) [.s 4, .c (.int .i64 10)],
 p 113 .mv [.s 115]])))
 (.cond (.s 113) (.seq (.reg [
 p 116 (.faddr 1) [.s 1],
 p 117 (.load none) [.s 116],
 p 118 (.call 247) [.s 117, .c zz, .c (.int .i64 3)],
 p 119 .mv [.s 118],
  ⟨120, true, .faddr 2, [.s 1], (some (119, true)), [], []⟩,
  ⟨121, true, .load none, [.s 120], (some (119, true)), [], []⟩,
  ⟨122, true, .bin .eql, [.s 121, .c zz], (some (119, true)), [], []⟩,
 p 123 .pick [.s 119, .s 122, .c ff],
 p 124 .mv [.s 123],
  ⟨125, true, .faddr 3, [.s 1], (some (124, true)), [], []⟩,
  ⟨126, true, .load none, [.s 125], (some (124, true)), [], []⟩,
  ⟨127, true, .bin .eql, [.s 126, .c zz], (some (124, true)), [], []⟩,
 p 128 .pick [.s 124, .s 127, .c ff],
 p 2 .mv [.s 128]])
 .ret)
 .skip))))))))))))))))))
 (.seq (.reg [
 p 2 .mv [.c ff]])
 .ret)))
def F194 : AFun where
  n := 19
  res := [.tmp 4]
  code := (.seq (.reg [
 p 4 .mv [.c zz]])
 (.seq (.seq (.reg [
 p 6 .mv [.s 0],
 p 7 .len [.s 6],
 p 8 .mv [.c zz]])
 (.block 0 (.loop (.seq (.reg [
 p 9 (.bin .lss) [.s 8, .s 7]])
 (.seq (.cond (.s 9) .skip
 (.exit 0))
 (.seq (.block 1 (.seq (.reg [
 p 10 .mv [.s 8],
 p 5 .mv [.s 10]])
 (.seq (.reg [
 p 11 .mv [.s 1],
 p 12 .mv [.s 0],
 p 13 .mv [.s 5],
 p 14 (.iaddr 6) [.s 12, .s 13],
 p 15 (.load (some 6)) [.s 14],
 p 16 .callv [.s 11, .s 15]])
 (.cond (.s 16) (.seq (.reg [
 p 17 .mv [.s 5],
 p 4 .mv [.s 17]])
 .ret)
 .skip))))
 (.reg [
 p 18 (.bin .add) [.s 8, .c (.int .i64 1)],
 p 8 .mv [.s 18]])))))))
 (.seq (.reg [
 p 4 .mv [.c (.int .i64 (-1))]])
 .ret)))
def F199 : AFun where
  n := 7
  res := [.cell 2 (some 10)]
  code := (.seq (.reg [
 p 1 (.box 10) [.s 0],
 p 2 (.zero [zz, zz, zz, zz, zz, et, et, (.int .u32 0), et, (.int .u32 0)]) []])
 (.seq (.reg [
 p 3 (.load (some 10)) [.s 1],
 p 4 (.call 208) [.s 3],
 p 5 (.faddr 9) [.s 1],
  ⟨500, false, .store 1, [.s 5, .s 4], none, [], []⟩])
 (.seq (.reg [
 p 6 (.load (some 10)) [.s 1],
  ⟨501, false, .store 10, [.s 2, .s 6], none, [], []⟩])
 .ret)))
def F200 : AFun where
  n := 14
  res := [.cell 4 (some 10)]
  code := (.seq (.reg [
 p 3 (.box 2) [.s 1],
 p 4 (.zero [zz, zz, zz, zz, zz, et, et, (.int .u32 0), et, (.int .u32 0)]) []])
 (.seq (.reg [
 p 6 .mv [.s 0],
 p 7 (.load (some 2)) [.s 3],
 p 8 (.build [zz, zz, zz, zz, zz, et, et, (.int .u32 0), et, (.int .u32 0)] [(0, 1), (1, 2)]) [.s 6, .s 7],
 p 5 (.zero [zz, zz, zz, zz, zz, et, et, (.int .u32 0), et, (.int .u32 0)]) [],
  ⟨500, false, .store 10, [.s 5, .s 8], none, [], []⟩])
 (.seq (.seq (.reg [
 p 9 .mv [.s 0],
 p 10 (.bin .eql) [.s 9, .c (.int .i64 1)]])
 (.cond (.s 10) (.reg [
 p 11 (.faddr 3) [.s 5],
 p 12 (.faddr 0) [.s 11],
  ⟨501, false, .store 1, [.s 12, .c (.int .i64 8)], none, [], []⟩])
 .skip))
 (.seq (.reg [
 p 13 (.load (some 10)) [.s 5],
  ⟨502, false, .store 10, [.s 4, .s 13], none, [], []⟩])
 .ret))))
def F201 : AFun where
  n := 9
  res := [.tmp 4]
  code := (.seq (.reg [
 p 4 .mv [.c ff]])
 (.seq (.reg [
 p 5 .mv [.s 0],
 p 6 .mv [.s 1],
 p 7 (.call 260) [.s 5, .s 6],
 p 8 (.bin .geq) [.s 7, .c zz],
 p 4 .mv [.s 8]])
 .ret))
def F202 : AFun where
  n := 36
  res := [.tmp 2]
  code := (.seq (.reg [
 p 2 .mv [.c et]])
 (.seq (.reg [
 p 3 .mv [.c zz]])
 (.seq (.seq (.reg [
 p 9 .mv [.s 0],
 p 10 .len [.s 9],
 p 11 .mv [.c zz]])
 (.block 0 (.loop (.seq (.reg [
 p 12 (.bin .lss) [.s 11, .s 10]])
 (.seq (.cond (.s 12) .skip
 (.exit 0))
 (.seq (.block 1 (.seq (.reg [
 p 13 (.iaddr 1) [.s 9, .s 11],
 p 14 (.load none) [.s 13],
 p 5 .mv [.s 14]])
 (.seq (.reg [
 p 15 .mv [.s 3],
 p 16 .mv [.s 5],
 p 17 .len [.s 16],
 p 18 (.bin .add) [.s 15, .s 17],
 p 3 .mv [.s 18]])
 (.seq (.reg [
 p 19 .mv [.s 3],
 p 20 (.bin .lss) [.s 19, .c zz]])
 (.cond (.s 20) (.reg [
 p 21 .bad [],
  ⟨500, false, .bad, [], none, [], []⟩])
 .skip)))))
 (.reg [
 p 22 (.bin .add) [.s 11, .c (.int .i64 1)],
 p 11 .mv [.s 22]])))))))
 (.seq (.reg [
 p 23 .mv [.s 3],
 p 24 (.call 261) [.c et, .s 23],
 p 6 .mv [.s 24]])
 (.seq (.seq (.reg [
 p 25 .mv [.s 0],
 p 26 .len [.s 25],
 p 27 .mv [.c zz]])
 (.block 2 (.loop (.seq (.reg [
 p 28 (.bin .lss) [.s 27, .s 26]])
 (.seq (.cond (.s 28) .skip
 (.exit 2))
 (.seq (.block 3 (.seq (.reg [
 p 29 (.iaddr 1) [.s 25, .s 27],
 p 30 (.load none) [.s 29],
 p 8 .mv [.s 30]])
 (.reg [
 p 31 .mv [.s 6],
 p 32 .mv [.s 8],
 p 33 (.app 4 32 [zz, zz, zz, zz]) [.s 31, .s 32],
 p 6 .mv [.s 33]])))
 (.reg [
 p 34 (.bin .add) [.s 27, .c (.int .i64 1)],
 p 27 .mv [.s 34]])))))))
 (.seq (.reg [
 p 35 .mv [.s 6],
 p 2 .mv [.s 35]])
 .ret))))))
def F203 : AFun where
  n := 14
  res := [.tmp 3]
  code := (.seq (.reg [
 p 2 (.box 4) [.s 0],
 p 3 .mv [.c ff]])
 (.seq (.reg [
 p 4 (.faddr 0) [.s 2],
 p 5 (.load none) [.s 4],
 p 6 (.bin .eql) [.s 5, .c (.int .i64 9)],
 p 7 .mv [.s 6],
  ⟨8, true, .faddr 1, [.s 2], (some (7, true)), [], []⟩,
  ⟨9, true, .load none, [.s 8], (some (7, true)), [], []⟩,
  ⟨10, true, .load none, [.s 1], (some (7, true)), [], []⟩,
  ⟨11, true, .len, [.s 10], (some (7, true)), [], []⟩,
  ⟨12, true, .bin .geq, [.s 9, .s 11], (some (7, true)), [], []⟩,
 p 13 .pick [.s 7, .s 12, .c ff],
 p 3 .mv [.s 13]])
 .ret))
def F204 : AFun where
  n := 12
  res := [.tmp 4]
  code := (.seq (.reg [
 p 3 (.box 1) [.s 1],
 p 4 .mv [.c zz]])
 (.seq (.reg [
 p 6 .mv [.s 0],
 p 7 (.mkfn 262 0) [.s 3],
 p 8 (.call 194) [.s 6, .s 7],
 p 5 .mv [.s 8]])
 (.seq (.seq (.reg [
 p 9 .mv [.s 5],
 p 10 (.bin .lss) [.s 9, .c zz]])
 (.cond (.s 10) (.seq (.reg [
 p 4 .mv [.c (.int .i64 8)]])
 .ret)
 .skip))
 (.seq (.reg [
 p 11 .mv [.s 5],
 p 4 .mv [.s 11]])
 .ret))))
def F205 : AFun where
  n := 55
  res := []
  code := (.seq (.reg [
 p 7 .mv [.s 0],
 p 8 .nilck [.s 7],
 p 9 (.faddr 8) [.s 8],
 p 10 (.load (some 3)) [.s 9],
 p 11 (.call 143) [.s 10],
 p 12 .len [.s 11],
 p 13 .mv [.c zz]])
 (.block 0 (.loop (.seq (.reg [
 p 14 (.bin .lss) [.s 13, .s 12]])
 (.seq (.cond (.s 14) .skip
 (.exit 0))
 (.seq (.block 1 (.seq (.reg [
 p 15 .mv [.s 13],
 p 16 (.iaddr 1) [.s 11, .s 13],
 p 17 (.load none) [.s 16],
 p 4 .mv [.s 15],
 p 5 .mv [.s 17]])
 (.seq (.reg [
 p 18 .mv [.s 0],
 p 19 .nilck [.s 18],
 p 20 (.faddr 8) [.s 19],
 p 21 (.faddr 2) [.s 20],
 p 22 (.load none) [.s 21],
 p 23 .mv [.s 5],
 p 24 (.iaddr 10) [.s 22, .s 23],
 p 25 (.load (some 10)) [.s 24],
 p 6 (.zero [zz, zz, zz, zz, zz, et, et, (.int .u32 0), et, (.int .u32 0)]) [],
  ⟨500, false, .store 10, [.s 6, .s 25], none, [], []⟩])
 (.seq (.drw [
 p 26 .mv [.s 4],
 p 27 .mv [.s 1],
 p 28 .len [.s 27],
 p 29 (.bin .lss) [.s 26, .s 28],
 p 30 .mv [.s 29],
  ⟨31, true, .faddr 3, [.s 6], (some (30, true)), [], []⟩,
  ⟨32, true, .load (some 2), [.s 31], (some (30, true)), [6], []⟩,
  ⟨33, true, .mv, [.s 1], (some (30, true)), [], []⟩,
  ⟨34, true, .mv, [.s 4], (some (30, true)), [], []⟩,
  ⟨35, true, .iaddr 2, [.s 33, .s 34], (some (30, true)), [], []⟩,
  ⟨36, true, .load (some 2), [.s 35], (some (30, true)), [], []⟩,
  ⟨37, true, .eqv true [some .i64, some .i64] true, [.s 32, .s 36], (some (30, true)), [], []⟩,
 p 38 .pick [.s 30, .s 37, .c ff]])
 (.cond (.s 38) (.seq (.reg [
 p 39 .mv [.s 1],
 p 40 .mv [.s 4],
 p 41 (.iaddr 2) [.s 39, .s 40],
 p 42 (.load (some 2)) [.s 41],
 p 43 (.faddr 3) [.s 6],
  ⟨501, false, .store 2, [.s 43, .s 42], none, [], []⟩])
 (.drw [
 p 44 .mv [.s 0],
 p 45 .mv [.s 0],
 p 46 .nilck [.s 45],
 p 47 (.faddr 8) [.s 46],
  ⟨48, true, .load (some 3), [.s 47], none, [0], []⟩,
 p 49 .mv [.s 5],
  ⟨50, true, .load (some 10), [.s 6], none, [6], []⟩,
  ⟨51, true, .call 127, [.s 48, .s 49, .s 50], none, [0, 51], [0, 51]⟩,
 p 52 .nilck [.s 44],
 p 53 (.faddr 8) [.s 52],
  ⟨502, false, .store 3, [.s 53, .s 51], none, [0, 51], [0]⟩]))
 .skip)))))
 (.reg [
 p 54 (.bin .add) [.s 13, .c (.int .i64 1)],
 p 13 .mv [.s 54]])))))))
def F208 : AFun where
  n := 78
  res := [.tmp 2]
  code := (.seq (.reg [
 p 1 (.box 10) [.s 0],
 p 2 .mv [.c (.int .u32 0)]])
 (.seq (.reg [
 p 8 (.faddr 0) [.s 1],
 p 9 (.load none) [.s 8],
 p 10 (.faddr 1) [.s 1],
 p 11 (.faddr 0) [.s 10],
 p 12 (.load none) [.s 11],
 p 13 (.faddr 1) [.s 1],
 p 14 (.faddr 1) [.s 13],
 p 15 (.load none) [.s 14],
 p 16 (.faddr 3) [.s 1],
 p 17 (.faddr 0) [.s 16],
 p 18 (.load none) [.s 17],
 p 19 (.faddr 3) [.s 1],
 p 20 (.faddr 1) [.s 19],
 p 21 (.load none) [.s 20],
 p 22 (.faddr 5) [.s 1],
 p 23 (.faddr 0) [.s 22],
 p 24 (.load none) [.s 23],
 p 25 .len [.s 24],
 p 26 (.buildSl 1 [zz] 6 [0, 1, 2, 3, 4, 5]) [.s 9, .s 12, .s 15, .s 18, .s 21, .s 25],
 p 3 .mv [.s 26]])
 (.seq (.reg [
 p 27 .mv [.s 3],
 p 28 (.faddr 5) [.s 1],
 p 29 (.faddr 0) [.s 28],
 p 30 (.load none) [.s 29],
 p 31 (.app 1 8 [zz]) [.s 27, .s 30],
 p 3 .mv [.s 31]])
 (.seq (.reg [
 p 32 .mv [.s 3],
 p 33 (.faddr 5) [.s 1],
 p 34 (.faddr 1) [.s 33],
 p 35 (.load none) [.s 34],
 p 36 .len [.s 35],
 p 37 (.buildSl 1 [zz] 1 [0]) [.s 36],
 p 38 (.app 1 8 [zz]) [.s 32, .s 37],
 p 3 .mv [.s 38]])
 (.seq (.seq (.reg [
 p 39 (.faddr 5) [.s 1],
 p 40 (.faddr 1) [.s 39],
 p 41 (.load none) [.s 40],
 p 42 .len [.s 41],
 p 43 .mv [.c zz]])
 (.block 0 (.loop (.seq (.reg [
 p 44 (.bin .lss) [.s 43, .s 42]])
 (.seq (.cond (.s 44) .skip
 (.exit 0))
 (.seq (.block 1 (.seq (.reg [
 p 45 (.iaddr 1) [.s 41, .s 43],
 p 46 (.load none) [.s 45],
 p 5 .mv [.s 46]])
 (.reg [
 p 47 .mv [.s 3],
 p 48 .mv [.s 5],
 p 49 (.buildSl 1 [zz] 1 [0]) [.s 48],
 p 50 (.app 1 8 [zz]) [.s 47, .s 49],
 p 3 .mv [.s 50]])))
 (.reg [
 p 51 (.bin .add) [.s 43, .c (.int .i64 1)],
 p 43 .mv [.s 51]])))))))
 (.seq (.reg [
 p 52 .mv [.s 3],
 p 53 (.faddr 7) [.s 1],
 p 54 (.faddr 0) [.s 53],
 p 55 (.load none) [.s 54],
 p 56 (.conv .i64) [.s 55],
 p 57 (.buildSl 1 [zz] 1 [0]) [.s 56],
 p 58 (.app 1 8 [zz]) [.s 52, .s 57],
 p 3 .mv [.s 58]])
 (.seq (.seq (.reg [
 p 59 (.faddr 7) [.s 1],
 p 60 (.faddr 1) [.s 59],
 p 61 (.load none) [.s 60],
 p 62 .len [.s 61],
 p 63 .mv [.c zz]])
 (.block 2 (.loop (.seq (.reg [
 p 64 (.bin .lss) [.s 63, .s 62]])
 (.seq (.cond (.s 64) .skip
 (.exit 2))
 (.seq (.block 3 (.seq (.reg [
 p 65 (.iaddr 2) [.s 61, .s 63],
 p 66 (.load (some 2)) [.s 65],
 p 7 (.zero [zz, (.int .u32 0)]) [],
  ⟨500, false, .store 2, [.s 7, .s 66], none, [], []⟩])
 (.reg [
 p 67 .mv [.s 3],
 p 68 (.faddr 0) [.s 7],
 p 69 (.load none) [.s 68],
 p 70 (.faddr 1) [.s 7],
 p 71 (.load none) [.s 70],
 p 72 (.conv .i64) [.s 71],
 p 73 (.buildSl 1 [zz] 2 [0, 1]) [.s 69, .s 72],
 p 74 (.app 1 8 [zz]) [.s 67, .s 73],
 p 3 .mv [.s 74]])))
 (.reg [
 p 75 (.bin .add) [.s 63, .c (.int .i64 1)],
 p 63 .mv [.s 75]])))))))
 (.seq (.reg [
 p 76 .mv [.s 3],
 p 77 (.call 265) [.s 76],
 p 2 .mv [.s 77]])
 .ret))))))))
def F210 : AFun := cloneOf 2 16 [zz, (.int .u32 0)]
def F214 : AFun where
  n := 23
  res := [.tmp 2]
  code := (.seq (.reg [
 p 1 (.box 10) [.s 0],
 p 2 .mv [.c et]])
 (.seq (.reg [
 p 8 (.faddr 5) [.s 1],
 p 9 (.load (some 2)) [.s 8],
 p 10 (.call 267) [.s 9],
 p 7 .mv [.s 10],
 p 11 (.extract 0) [.s 7],
 p 12 (.extract 1) [.s 7],
 p 3 (.zero [et, et]) [],
  ⟨500, false, .store 2, [.s 3, .s 11], none, [], []⟩,
 p 4 .mv [.s 12]])
 (.seq (.reg [
 p 14 (.faddr 7) [.s 1],
 p 15 (.load (some 2)) [.s 14],
 p 16 (.call 268) [.s 15],
 p 13 .mv [.s 16],
 p 17 (.extract 0) [.s 13],
 p 18 (.extract 1) [.s 13],
 p 5 (.zero [(.int .u32 0), et]) [],
  ⟨501, false, .store 2, [.s 5, .s 17], none, [], []⟩,
 p 6 .mv [.s 18]])
 (.seq (.reg [
 p 19 .mv [.s 4],
 p 20 .mv [.s 6],
 p 21 (.buildSl 1 [se] 2 [0, 1]) [.s 19, .s 20],
 p 22 (.call 269) [.s 21],
 p 2 .mv [.s 22]])
 .ret))))
def F215 : AFun where
  n := 10
  res := [.cell 2 (some 2)]
  code := (.seq (.reg [
 p 1 (.box 2) [.s 0],
 p 2 (.zero [et, et]) []])
 (.seq (.drw [
 p 3 (.faddr 0) [.s 1],
  ⟨4, true, .load none, [.s 3], none, [1], []⟩,
 p 5 (.call 137) [.s 4],
 p 6 (.faddr 1) [.s 1],
  ⟨7, true, .load none, [.s 6], none, [1], []⟩,
 p 8 (.call 149) [.s 7],
  ⟨9, true, .build [et, et] [(0, 1), (1, 1)], [.s 5, .s 8], none, [5, 8], []⟩,
  ⟨500, false, .store 2, [.s 2, .s 9], none, [2, 5, 8], [2]⟩])
 .ret))
def F216 : AFun where
  n := 24
  res := [.tmp 4]
  code := (.seq (.reg [
 p 4 .mv [.c et]])
 (.seq (.reg [
 p 7 .mv [.s 0],
 p 8 (.call 270) [.s 7],
 p 5 .mv [.s 8]])
 (.seq (.seq (.reg [
 p 9 .mv [.s 5],
 p 10 .len [.s 9],
 p 11 .mv [.c zz]])
 (.block 0 (.loop (.seq (.reg [
 p 12 (.bin .lss) [.s 11, .s 10]])
 (.seq (.cond (.s 12) .skip
 (.exit 0))
 (.seq (.block 1 (.seq (.reg [
 p 13 .mv [.s 11],
 p 6 .mv [.s 13]])
 (.seq (.reg [
 p 14 .mv [.s 0],
 p 15 .mv [.s 6],
 p 16 .mv [.s 1],
 p 17 (.call 271) [.s 14, .s 15, .s 16]])
 (.cond (.s 17) (.reg [
 p 18 .mv [.s 5],
 p 19 .mv [.s 6],
 p 20 (.iaddr 2) [.s 18, .s 19],
 p 21 (.faddr 1) [.s 20],
  ⟨500, false, .store 1, [.s 21, .c zz], none, [], []⟩])
 .skip))))
 (.reg [
 p 22 (.bin .add) [.s 11, .c (.int .i64 1)],
 p 11 .mv [.s 22]])))))))
 (.seq (.reg [
 p 23 .mv [.s 5],
 p 4 .mv [.s 23]])
 .ret))))
def F217 : AFun where
  n := 44
  res := [.cell 4 (some 2), .tmp 5, .tmp 6]
  code := (.seq (.reg [
 p 2 (.box 2) [.s 0],
 p 4 (.zero [et, et]) [],
 p 5 .mv [.c ff],
 p 6 .mv [.c ff]])
 (.seq (.reg [
 p 7 (.load (some 2)) [.s 2],
 p 8 (.call 215) [.s 7],
  ⟨500, false, .store 2, [.s 4, .s 8], none, [], []⟩])
 (.seq (.seq (.reg [
 p 9 (.load (some 2)) [.s 2],
 p 10 .mv [.s 1],
 p 11 (.call 272) [.s 9, .s 10],
 p 12 (.un .not) [.s 11]])
 (.cond (.s 12) (.seq (.reg [
 p 13 (.load (some 2)) [.s 4],
  ⟨501, false, .store 2, [.s 4, .s 13], none, [], []⟩,
 p 5 .mv [.c ff],
 p 6 .mv [.c ff]])
 .ret)
 .skip))
 (.seq (.reg [
 p 14 (.faddr 0) [.s 4],
 p 15 (.load none) [.s 14],
 p 16 .mv [.s 1],
 p 17 (.iaddr 1) [.s 15, .s 16],
 p 18 (.load none) [.s 17],
 p 19 (.bin .add) [.s 18, .c (.int .i64 1)],
 p 20 (.iaddr 1) [.s 15, .s 16],
  ⟨502, false, .store 1, [.s 20, .s 19], none, [], []⟩])
 (.seq (.seq (.reg [
 p 21 (.faddr 0) [.s 4],
 p 22 (.load none) [.s 21],
 p 23 .mv [.s 1],
 p 24 (.iaddr 1) [.s 22, .s 23],
 p 25 (.load none) [.s 24],
 p 26 (.bin .neq) [.s 25, .c (.int .i64 2)],
 p 27 .mv [.s 26],
  ⟨28, true, .faddr 1, [.s 4], (some (27, false)), [], []⟩,
  ⟨29, true, .load none, [.s 28], (some (27, false)), [], []⟩,
  ⟨30, true, .mv, [.s 1], (some (27, false)), [], []⟩,
  ⟨31, true, .iaddr 1, [.s 29, .s 30], (some (27, false)), [], []⟩,
  ⟨32, true, .load none, [.s 31], (some (27, false)), [], []⟩,
 p 33 .pick [.s 27, .c (.bool true), .s 32]])
 (.cond (.s 33) (.seq (.reg [
 p 34 (.load (some 2)) [.s 4],
  ⟨503, false, .store 2, [.s 4, .s 34], none, [], []⟩,
 p 5 .mv [.c ff],
 p 6 .mv [.c ff]])
 .ret)
 .skip))
 (.seq (.reg [
 p 35 (.faddr 1) [.s 4],
 p 36 (.load none) [.s 35],
 p 37 .mv [.s 1],
 p 38 (.iaddr 1) [.s 36, .s 37],
  ⟨504, false, .store 1, [.s 38, .c (.bool true)], none, [], []⟩])
 (.seq (.drw [
  ⟨39, true, .load (some 2), [.s 4], none, [4], []⟩,
 p 40 (.faddr 1) [.s 4],
  ⟨41, true, .load none, [.s 40], none, [4], []⟩,
  ⟨42, true, .call 273, [.s 41, .c ff], none, [8], []⟩,
 p 43 (.un .not) [.s 42],
  ⟨505, false, .store 2, [.s 4, .s 39], none, [4, 8], [4]⟩,
 p 5 .mv [.c (.bool true)],
 p 6 .mv [.s 43]])
 .ret)))))))
def F218 : AFun where
  n := 20
  res := [.cell 2 (some 28)]
  code := (.seq (.reg [
 p 1 (.box 28) [.s 0],
 p 2 (.zero [zz, zz, zz, zz, zz, zz, zz, zz, zz, zz, zz, zz, zz, et, ff, zz, zz, zz, zz, zz, zz, zz, zz, zz, et, ff, et, ff]) []])
 (.seq (.drw [
 p 3 (.faddr 4) [.s 1],
 p 4 (.faddr 9) [.s 3],
  ⟨5, true, .load none, [.s 4], none, [1], []⟩,
  ⟨6, true, .call 136, [.s 5], none, [6, 10, 13], [6, 10, 13]⟩,
 p 7 (.faddr 15) [.s 1],
 p 8 (.faddr 9) [.s 7],
  ⟨9, true, .load none, [.s 8], none, [1], []⟩,
  ⟨10, true, .call 136, [.s 9], none, [6, 10, 13], [6, 10, 13]⟩,
 p 11 (.faddr 26) [.s 1],
  ⟨12, true, .load none, [.s 11], none, [1], []⟩,
  ⟨13, true, .call 137, [.s 12], none, [6, 10, 13], [6, 10, 13]⟩,
 p 14 (.faddr 4) [.s 1],
 p 15 (.faddr 9) [.s 14],
  ⟨500, false, .store 1, [.s 15, .s 6], none, [1, 6], [1]⟩,
 p 16 (.faddr 15) [.s 1],
 p 17 (.faddr 9) [.s 16],
  ⟨501, false, .store 1, [.s 17, .s 10], none, [1, 10], [1]⟩,
 p 18 (.faddr 26) [.s 1],
  ⟨502, false, .store 1, [.s 18, .s 13], none, [1, 13], [1]⟩])
 (.seq (.reg [
 p 19 (.load (some 28)) [.s 1],
  ⟨503, false, .store 28, [.s 2, .s 19], none, [], []⟩])
 .ret)))
def F219 : AFun where
  n := 42
  res := [.tmp 4]
  code := (.seq (.reg [
 p 4 .mv [.c et]])
 (.seq (.reg [
 p 8 .mv [.s 0],
 p 9 .mv [.s 1],
 p 10 (.call 274) [.s 8, .s 9],
 p 5 .mv [.s 10]])
 (.seq (.seq (.reg [
 p 11 .mv [.s 5],
 p 12 (.bin .eql) [.s 11, .c (.int .i64 (-1))]])
 (.cond (.s 12) (.seq (.reg [
 p 13 .mv [.s 0],
 p 4 .mv [.s 13]])
 .ret)
 .skip))
 (.seq (.seq (.reg [
 p 14 .mv [.s 5],
 p 15 (.bin .add) [.s 14, .c (.int .i64 1)],
 p 6 .mv [.s 15]])
 (.block 0 (.loop (.seq (.seq (.reg [
 p 16 .mv [.s 6],
 p 17 .mv [.s 0],
 p 18 .len [.s 17],
 p 19 (.bin .lss) [.s 16, .s 18]])
 (.cond (.s 19) .skip
 (.exit 0)))
 (.seq (.block 1 (.seq (.reg [
 p 22 .mv [.s 0],
 p 23 .mv [.s 6],
 p 24 (.iaddr 1) [.s 22, .s 23],
 p 25 (.load none) [.s 24],
 p 7 .mv [.s 25]])
 (.seq (.reg [
 p 26 .mv [.s 1],
 p 27 .mv [.s 7],
 p 28 .callv [.s 26, .s 27],
 p 29 (.un .not) [.s 28]])
 (.cond (.s 29) (.seq (.reg [
 p 30 .mv [.s 0],
 p 31 .mv [.s 5],
 p 32 .mv [.s 7],
 p 33 (.iaddr 1) [.s 30, .s 31],
  ⟨500, false, .store 1, [.s 33, .s 32], none, [], []⟩])
 (.reg [
 p 34 .mv [.s 5],
 p 35 (.bin .add) [.s 34, .c (.int .i64 1)],
 p 5 .mv [.s 35]]))
 .skip))))
 (.reg [
 p 20 .mv [.s 6],
 p 21 (.bin .add) [.s 20, .c (.int .i64 1)],
 p 6 .mv [.s 21]]))))))
 (.seq (.reg [
 p 36 .mv [.s 0],
 p 37 .mv [.s 5],
 p 38 (.slice 1 true false) [.s 36, .s 37],
  ⟨501, false, .clear [zz], [.s 38], none, [], []⟩])
 (.seq (.reg [
 p 39 .mv [.s 0],
 p 40 .mv [.s 5],
 p 41 (.slice 1 false true) [.s 39, .s 40],
 p 4 .mv [.s 41]])
 .ret))))))
def F220 : AFun where
  n := 7
  res := [.tmp 3]
  code := (.seq (.reg [
 p 3 .mv [.c ff]])
 (.seq (.reg [
 p 4 .mv [.s 0],
 p 5 (.load none) [.s 1],
 p 6 (.bin .eql) [.s 4, .s 5],
 p 3 .mv [.s 6]])
 .ret))
def F221 : AFun where
  n := 29
  res := [.cell 6 (some 3)]
  code := (.seq (.reg [
 p 3 (.box 28) [.s 0],
 p 6 (.zero [zz, zz, zz]) []])
 (.seq (.drw [
  ⟨10, true, .load (some 28), [.s 3], none, [3], []⟩,
 p 11 .mv [.s 1],
 p 12 .mv [.s 2],
 p 13 (.call 275) [.s 10, .s 11, .s 12],
 p 14 (.faddr 0) [.s 3],
  ⟨15, true, .load none, [.s 14], none, [3], []⟩,
 p 16 (.build [zz, zz, zz] [(0, 1), (1, 1), (2, 1)]) [.s 13, .c (.int .i64 1), .s 15],
 p 7 (.zero [zz, zz, zz]) [],
  ⟨500, false, .store 3, [.s 7, .s 16], none, [7], [7]⟩])
 (.seq (.seq (.reg [
 p 18 .mv [.s 2],
 p 19 (.faddr 26) [.s 3],
 p 20 (.load none) [.s 19],
 p 21 (.faddr 0) [.s 3],
 p 22 (.load none) [.s 21],
 p 23 (.call 276) [.s 18, .s 20, .s 22],
 p 17 .mv [.s 23],
 p 24 (.extract 0) [.s 17],
 p 25 (.extract 1) [.s 17],
 p 8 .mv [.s 24],
 p 9 .mv [.s 25]])
 (.seq (.reg [
 p 26 .mv [.s 9]])
 (.cond (.s 26) (.reg [
 p 27 (.faddr 1) [.s 7],
  ⟨501, false, .store 1, [.s 27, .c zz], none, [], []⟩])
 .skip)))
 (.seq (.reg [
 p 28 (.load (some 3)) [.s 7],
  ⟨502, false, .store 3, [.s 6, .s 28], none, [], []⟩])
 .ret))))
def F222 : AFun where
  n := 42
  res := [.tmp 2]
  code := (.seq (.reg [
 p 2 .mv [.c zz]])
 (.seq (.reg [
 p 10 .mv [.s 0],
 p 11 (.iaddr 3) [.s 10, .c zz],
 p 12 (.load (some 3)) [.s 11],
 p 3 (.zero [zz, zz, zz]) [],
  ⟨500, false, .store 3, [.s 3, .s 12], none, [], []⟩,
 p 4 .mv [.c (.int .u64 0)]])
 (.seq (.seq (.reg [
 p 13 .mv [.s 0],
 p 14 .len [.s 13],
 p 15 .mv [.c zz]])
 (.block 0 (.loop (.seq (.reg [
 p 16 (.bin .lss) [.s 15, .s 14]])
 (.seq (.cond (.s 16) .skip
 (.exit 0))
 (.seq (.block 1 (.seq (.reg [
 p 17 .mv [.s 15],
 p 18 (.iaddr 3) [.s 13, .s 15],
 p 19 (.load (some 3)) [.s 18],
 p 6 (.zero [zz, zz, zz]) [],
 p 5 .mv [.s 17],
  ⟨501, false, .store 3, [.s 6, .s 19], none, [], []⟩])
 (.seq (.reg [
 p 20 (.load (some 3)) [.s 6],
 p 21 (.load (some 3)) [.s 3],
 p 22 (.call 223) [.s 20, .s 21],
 p 7 .mv [.s 22]])
 (.block 2 (.seq (.reg [
 p 24 .mv [.s 7],
 p 25 (.bin .lss) [.s 24, .c zz],
 p 23 .mv [.s 25]])
 (.cond (.s 23) (.drw [
  ⟨26, true, .load (some 3), [.s 6], none, [6], []⟩,
 p 27 .mv [.s 5],
 p 28 (.call 277) [.c (.int .u64 0), .s 27],
  ⟨502, false, .store 3, [.s 3, .s 26], none, [3], [3]⟩,
 p 4 .mv [.s 28]])
 (.seq (.reg [
 p 30 .mv [.s 7],
 p 31 (.bin .eql) [.s 30, .c zz],
 p 29 .mv [.s 31]])
 (.cond (.s 29) (.reg [
 p 32 .mv [.s 4],
 p 33 .mv [.s 5],
 p 34 (.call 277) [.s 32, .s 33],
 p 4 .mv [.s 34]])
 .skip))))))))
 (.reg [
 p 35 (.bin .add) [.s 15, .c (.int .i64 1)],
 p 15 .mv [.s 35]])))))))
 (.seq (.reg [
 p 37 .mv [.s 4],
 p 38 (.call 278) [.s 37],
 p 36 .mv [.s 38],
 p 39 (.extract 0) [.s 36],
 p 40 (.extract 1) [.s 36],
 p 8 .mv [.s 39],
 p 9 .mv [.s 40]])
 (.seq (.reg [
 p 41 .mv [.s 8],
 p 2 .mv [.s 41]])
 .ret)))))
def F223 : AFun where
  n := 22
  res := [.tmp 4]
  code := (.seq (.reg [
 p 2 (.box 3) [.s 0],
 p 3 (.box 3) [.s 1],
 p 4 .mv [.c zz]])
 (.seq (.drw [
 p 5 (.faddr 0) [.s 2],
  ⟨6, true, .load none, [.s 5], none, [2], []⟩,
 p 7 (.faddr 0) [.s 3],
  ⟨8, true, .load none, [.s 7], none, [3], []⟩,
 p 9 (.call 280) [.s 6, .s 8],
 p 10 (.faddr 1) [.s 2],
  ⟨11, true, .load none, [.s 10], none, [2], []⟩,
 p 12 (.faddr 1) [.s 3],
  ⟨13, true, .load none, [.s 12], none, [3], []⟩,
 p 14 (.call 280) [.s 11, .s 13],
 p 15 (.faddr 2) [.s 2],
  ⟨16, true, .load none, [.s 15], none, [2], []⟩,
 p 17 (.faddr 2) [.s 3],
  ⟨18, true, .load none, [.s 17], none, [3], []⟩,
 p 19 (.call 280) [.s 16, .s 18],
 p 20 (.buildSl 1 [zz] 3 [0, 1, 2]) [.s 9, .s 14, .s 19],
  ⟨21, true, .call 279, [.s 20], none, [20], []⟩,
 p 4 .mv [.s 21]])
 .ret))
def F224 : AFun where
  n := 70
  res := [.cell 4 (some 28), .cell 5 (some 4), .tmp 6]
  code := (.seq (.reg [
 p 2 (.box 6) [.s 0],
 p 3 (.box 28) [.s 1],
 p 4 (.zero [zz, zz, zz, zz, zz, zz, zz, zz, zz, zz, zz, zz, zz, et, ff, zz, zz, zz, zz, zz, zz, zz, zz, zz, et, ff, et, ff]) [],
 p 5 (.zero [zz, zz, zz, zz]) [],
 p 6 .mv [.c ff]])
 (.seq (.reg [
 p 9 (.load (some 28)) [.s 3],
 p 10 (.call 281) [.s 9],
  ⟨500, false, .store 28, [.s 4, .s 10], none, [], []⟩])
 (.seq (.drw [
  ⟨12, true, .load (some 6), [.s 2], none, [2], []⟩,
  ⟨13, true, .load (some 28), [.s 3], none, [3], []⟩,
 p 14 (.call 283) [.s 12, .s 13],
 p 15 (.faddr 4) [.s 3],
  ⟨16, true, .load (some 11), [.s 15], none, [3], []⟩,
  ⟨17, true, .call 282, [.s 14, .s 16], none, [14], [14]⟩,
 p 11 .mv [.s 17],
 p 18 (.extract 0) [.s 11],
 p 19 (.extract 1) [.s 11],
 p 20 (.extract 2) [.s 11],
 p 7 (.zero [zz, zz, zz, zz, zz, zz, zz, zz, zz, et, ff]) [],
  ⟨501, false, .store 11, [.s 7, .s 18], none, [7, 17], [7]⟩,
  ⟨502, false, .store 4, [.s 5, .s 19], none, [5], [5]⟩,
 p 6 .mv [.s 20]])
 (.seq (.seq (.reg [
 p 21 .mv [.s 6],
 p 22 (.un .not) [.s 21]])
 (.cond (.s 22) (.seq (.reg [
 p 23 (.load (some 28)) [.s 4],
 p 24 (.build [zz, zz, zz, zz] []) [],
  ⟨503, false, .store 28, [.s 4, .s 23], none, [], []⟩,
  ⟨504, false, .store 4, [.s 5, .s 24], none, [], []⟩,
 p 6 .mv [.c ff]])
 .ret)
 .skip))
 (.seq (.reg [
 p 25 (.load (some 11)) [.s 7],
 p 26 (.faddr 4) [.s 4],
  ⟨505, false, .store 11, [.s 26, .s 25], none, [], []⟩])
 (.seq (.seq (.reg [
 p 27 (.faddr 0) [.s 5],
 p 28 (.load none) [.s 27]])
 (.block 0 (.seq (.reg [
 p 30 (.bin .eql) [.s 28, .c (.int .i64 11)],
 p 29 .mv [.s 30]])
 (.cond (.s 29) (.reg [
 p 31 (.load (some 11)) [.s 7],
 p 32 (.call 284) [.s 31],
 p 33 (.faddr 15) [.s 4],
  ⟨506, false, .store 11, [.s 33, .s 32], none, [], []⟩])
 (.seq (.reg [
 p 35 (.bin .eql) [.s 28, .c (.int .i64 9)],
 p 34 .mv [.s 35]])
 (.cond (.s 34) (.reg [
 p 36 (.faddr 26) [.s 4],
 p 37 (.load none) [.s 36],
 p 38 (.faddr 1) [.s 5],
 p 39 (.load none) [.s 38],
 p 40 (.buildSl 1 [zz] 1 [0]) [.s 39],
 p 41 (.app 1 8 [zz]) [.s 37, .s 40],
 p 42 (.faddr 26) [.s 4],
  ⟨507, false, .store 1, [.s 42, .s 41], none, [], []⟩])
 (.seq (.reg [
 p 44 (.bin .eql) [.s 28, .c (.int .i64 10)],
 p 43 .mv [.s 44]])
 (.cond (.s 43) (.seq (.reg [
 p 45 (.faddr 26) [.s 4],
 p 46 (.load none) [.s 45],
 p 47 .len [.s 46],
 p 48 (.bin .sub) [.s 47, .c (.int .i64 1)],
 p 8 .mv [.s 48]])
 (.block 1 (.loop (.seq (.seq (.reg [
 p 49 .mv [.s 8],
 p 50 (.bin .geq) [.s 49, .c zz]])
 (.cond (.s 50) .skip
 (.exit 1)))
 (.seq (.block 2 (.seq (.drw [
 p 53 (.faddr 26) [.s 4],
  ⟨54, true, .load none, [.s 53], none, [4], []⟩,
 p 55 .mv [.s 8],
  ⟨56, true, .iaddr 1, [.s 54, .s 55], none, [10, 17, 32, 40, 41, 66], []⟩,
  ⟨57, true, .load none, [.s 56], none, [10, 17, 32, 40, 41, 66], []⟩,
 p 58 (.faddr 1) [.s 5],
  ⟨59, true, .load none, [.s 58], none, [5], []⟩,
 p 60 (.bin .eql) [.s 57, .s 59]])
 (.cond (.s 60) (.seq (.reg [
 p 61 (.faddr 26) [.s 4],
 p 62 (.load none) [.s 61],
 p 63 .mv [.s 8],
 p 64 .mv [.s 8],
 p 65 (.bin .add) [.s 64, .c (.int .i64 1)],
 p 66 (.call 285) [.s 62, .s 63, .s 65],
 p 67 (.faddr 26) [.s 4],
  ⟨508, false, .store 1, [.s 67, .s 66], none, [], []⟩])
 (.exit 1))
 .skip)))
 (.reg [
 p 51 .mv [.s 8],
 p 52 (.bin .sub) [.s 51, .c (.int .i64 1)],
 p 8 .mv [.s 52]]))))))
 .skip))))))))
 (.seq (.drw [
  ⟨68, true, .load (some 28), [.s 4], none, [4], []⟩,
  ⟨69, true, .load (some 4), [.s 5], none, [5], []⟩,
  ⟨509, false, .store 28, [.s 4, .s 68], none, [4, 10, 17, 32, 40, 41, 66], [4]⟩,
  ⟨510, false, .store 4, [.s 5, .s 69], none, [5], [5]⟩,
 p 6 .mv [.c (.bool true)]])
 .ret)))))))
def F225 : AFun where
  n := 31
  res := [.tmp 6, .tmp 7]
  code := (.seq (.reg [
 p 6 .mv [.c et],
 p 7 .mv [.c ff]])
 (.seq (.reg [
 p 9 .mv [.s 0],
 p 10 (.call 270) [.s 9],
 p 8 .mv [.s 10]])
 (.seq (.seq (.reg [
 p 11 .mv [.s 0],
 p 12 .mv [.s 1],
 p 13 (.call 286) [.s 11, .s 12],
 p 14 (.un .not) [.s 13],
 p 15 .mv [.s 14],
  ⟨16, true, .mv, [.s 0], (some (15, false)), [], []⟩,
  ⟨17, true, .mv, [.s 1], (some (15, false)), [], []⟩,
  ⟨18, true, .iaddr 2, [.s 16, .s 17], (some (15, false)), [], []⟩,
  ⟨19, true, .faddr 1, [.s 18], (some (15, false)), [], []⟩,
  ⟨20, true, .load none, [.s 19], (some (15, false)), [], []⟩,
  ⟨21, true, .bin .neq, [.s 20, .c zz], (some (15, false)), [], []⟩,
 p 22 .pick [.s 15, .c (.bool true), .s 21]])
 (.cond (.s 22) (.seq (.reg [
 p 23 .mv [.s 8],
 p 6 .mv [.s 23],
 p 7 .mv [.c ff]])
 .ret)
 .skip))
 (.seq (.reg [
 p 24 .mv [.s 8],
 p 25 .mv [.s 1],
 p 26 .mv [.s 2],
 p 27 (.bin .add) [.s 26, .c (.int .i64 1)],
 p 28 (.iaddr 2) [.s 24, .s 25],
 p 29 (.faddr 1) [.s 28],
  ⟨500, false, .store 1, [.s 29, .s 27], none, [], []⟩])
 (.seq (.reg [
 p 30 .mv [.s 8],
 p 6 .mv [.s 30],
 p 7 .mv [.c (.bool true)]])
 .ret)))))
def F226 : AFun where
  n := 22
  res := [.tmp 6, .tmp 7]
  code := (.seq (.reg [
 p 6 .mv [.c et],
 p 7 .mv [.c ff]])
 (.seq (.reg [
 p 9 .mv [.s 0],
 p 10 (.call 270) [.s 9],
 p 8 .mv [.s 10]])
 (.seq (.seq (.reg [
 p 11 .mv [.s 0],
 p 12 .mv [.s 1],
 p 13 .mv [.s 2],
 p 14 (.call 271) [.s 11, .s 12, .s 13],
 p 15 (.un .not) [.s 14]])
 (.cond (.s 15) (.seq (.reg [
 p 16 .mv [.s 8],
 p 6 .mv [.s 16],
 p 7 .mv [.c ff]])
 .ret)
 .skip))
 (.seq (.reg [
 p 17 .mv [.s 8],
 p 18 .mv [.s 1],
 p 19 (.iaddr 2) [.s 17, .s 18],
 p 20 (.faddr 1) [.s 19],
  ⟨500, false, .store 1, [.s 20, .c zz], none, [], []⟩])
 (.seq (.reg [
 p 21 .mv [.s 8],
 p 6 .mv [.s 21],
 p 7 .mv [.c (.bool true)]])
 .ret)))))
def F227 : AFun where
  n := 95
  res := [.tmp 4]
  code := (.seq (.reg [
 p 4 .mv [.c ff]])
 (.seq (.reg [
 p 6 .mv [.s 1],
 p 7 .nilck [.s 6],
 p 8 (.faddr 4) [.s 7],
 p 9 (.faddr 1) [.s 8],
 p 10 (.iaddrA 8 1) [.s 9, .c zz],
 p 11 (.load none) [.s 10],
 p 5 .mv [.s 11]])
 (.seq (.seq (.reg [
 p 12 .mv [.s 1],
 p 13 .nilck [.s 12],
 p 14 (.faddr 3) [.s 13],
 p 15 (.load none) [.s 14],
 p 16 (.bin .eql) [.s 15, .c (.int .i64 2)]])
 (.cond (.s 16) (.seq (.reg [
 p 17 .mv [.s 0],
 p 18 .mv [.s 1],
 p 19 .nilck [.s 18],
 p 20 (.faddr 0) [.s 19],
 p 21 (.load none) [.s 20],
 p 22 .mv [.s 5],
 p 23 (.build [zz, zz, zz, zz, zz, zz] [(1, 1), (2, 1), (4, 1)]) [.c (.int .i64 4), .s 21, .s 22],
 p 24 (.call 139) [.s 17, .s 23]])
 (.seq (.reg [
 p 4 .mv [.c (.bool true)]])
 .ret))
 .skip))
 (.seq (.reg [
 p 25 .mv [.s 0],
 p 26 .mv [.s 1],
 p 27 .nilck [.s 26],
 p 28 (.faddr 0) [.s 27],
 p 29 (.load none) [.s 28],
 p 30 .mv [.s 5],
 p 31 (.build [zz, zz, zz, zz, zz, zz] [(1, 1), (2, 1), (4, 1)]) [.c (.int .i64 3), .s 29, .s 30],
 p 32 (.call 139) [.s 25, .s 31]])
 (.seq (.seq (.drw [
 p 33 .mv [.s 1],
 p 34 .nilck [.s 33],
 p 35 (.faddr 3) [.s 34],
  ⟨36, true, .load none, [.s 35], none, [1], []⟩,
 p 37 (.bin .eql) [.s 36, .c zz],
 p 38 .mv [.s 37],
  ⟨39, true, .mv, [.s 0], (some (38, true)), [], []⟩,
  ⟨40, true, .nilck, [.s 39], (some (38, true)), [], []⟩,
  ⟨41, true, .faddr 0, [.s 40], (some (38, true)), [], []⟩,
  ⟨42, true, .faddr 2, [.s 41], (some (38, true)), [], []⟩,
  ⟨43, true, .load none, [.s 42], (some (38, true)), [0], []⟩,
  ⟨44, true, .mv, [.s 1], (some (38, true)), [], []⟩,
  ⟨45, true, .nilck, [.s 44], (some (38, true)), [], []⟩,
  ⟨46, true, .faddr 0, [.s 45], (some (38, true)), [], []⟩,
  ⟨47, true, .load none, [.s 46], (some (38, true)), [1], []⟩,
  ⟨48, true, .iaddr 6, [.s 43, .s 47], (some (38, true)), [0, 24, 32, 60, 71], []⟩,
  ⟨49, true, .faddr 4, [.s 48], (some (38, true)), [], []⟩,
  ⟨50, true, .load none, [.s 49], (some (38, true)), [0, 24, 32, 60, 71], []⟩,
  ⟨51, true, .len, [.s 50], (some (38, true)), [], []⟩,
  ⟨52, true, .bin .gtr, [.s 51, .c zz], (some (38, true)), [], []⟩,
 p 53 .pick [.s 38, .s 52, .c ff]])
 (.cond (.s 53) (.reg [
 p 54 .mv [.s 0],
 p 55 .mv [.s 1],
 p 56 .nilck [.s 55],
 p 57 (.faddr 0) [.s 56],
 p 58 (.load none) [.s 57],
 p 59 (.build [zz, zz, zz, zz, zz, zz] [(1, 1), (2, 1)]) [.c (.int .i64 8), .s 58],
 p 60 (.call 139) [.s 54, .s 59]])
 .skip))
 (.seq (.drw [
 p 61 .mv [.s 0],
 p 62 .mv [.s 0],
 p 63 .nilck [.s 62],
 p 64 (.faddr 0) [.s 63],
 p 65 (.faddr 11) [.s 64],
  ⟨66, true, .load (some 2), [.s 65], none, [0], []⟩,
 p 67 .mv [.s 1],
 p 68 .nilck [.s 67],
 p 69 (.faddr 0) [.s 68],
  ⟨70, true, .load none, [.s 69], none, [1], []⟩,
  ⟨71, true, .call 138, [.s 66, .s 70], none, [0, 24, 32, 60, 71], [0, 24, 32, 60, 71]⟩,
 p 72 .nilck [.s 61],
 p 73 (.faddr 0) [.s 72],
 p 74 (.faddr 11) [.s 73],
  ⟨500, false, .store 2, [.s 74, .s 71], none, [0, 71], [0]⟩])
 (.seq (.reg [
 p 75 .mv [.s 1],
 p 76 .mv [.s 1],
 p 77 .nilck [.s 76],
 p 78 (.load (some 28)) [.s 77],
 p 79 (.call 287) [.s 78],
 p 80 .nilck [.s 75],
  ⟨501, false, .store 28, [.s 80, .s 79], none, [], []⟩])
 (.seq (.drw [
 p 81 .mv [.s 0],
 p 82 .nilck [.s 81],
 p 83 (.faddr 0) [.s 82],
 p 84 (.faddr 2) [.s 83],
  ⟨85, true, .load none, [.s 84], none, [0], []⟩,
 p 86 .mv [.s 1],
 p 87 .nilck [.s 86],
 p 88 (.faddr 0) [.s 87],
  ⟨89, true, .load none, [.s 88], none, [1], []⟩,
  ⟨90, true, .iaddr 6, [.s 85, .s 89], none, [0, 24, 32, 60, 71], []⟩,
 p 91 (.faddr 5) [.s 90],
  ⟨92, true, .load none, [.s 91], none, [0, 24, 32, 60, 71], []⟩,
 p 93 .len [.s 92],
 p 94 (.bin .eql) [.s 93, .c zz],
 p 4 .mv [.s 94]])
 .ret))))))))
def F228 : AFun where
  n := 31
  res := [.cell 6 (some 28), .tmp 7, .tmp 8]
  code := (.seq (.reg [
 p 3 (.box 6) [.s 0],
 p 4 (.box 28) [.s 1],
 p 6 (.zero [zz, zz, zz, zz, zz, zz, zz, zz, zz, zz, zz, zz, zz, et, ff, zz, zz, zz, zz, zz, zz, zz, zz, zz, et, ff, et, ff]) [],
 p 7 .mv [.c et],
 p 8 .mv [.c zz]])
 (.seq (.drw [
  ⟨9, true, .load (some 6), [.s 3], none, [3], []⟩,
  ⟨10, true, .load (some 28), [.s 4], none, [4], []⟩,
 p 11 (.call 288) [.s 9, .s 10],
 p 12 .mv [.s 2],
 p 13 (.faddr 0) [.s 4],
  ⟨14, true, .load none, [.s 13], none, [4], []⟩,
 p 15 (.call 216) [.s 12, .s 14],
  ⟨500, false, .store 28, [.s 6, .s 11], none, [6, 11], [6]⟩,
 p 7 .mv [.s 15],
 p 8 .mv [.c (.int .i64 6)]])
 (.seq (.block 0 (.seq (.reg [
 p 17 (.faddr 3) [.s 4],
 p 18 (.load none) [.s 17],
 p 19 (.bin .eql) [.s 18, .c (.int .i64 2)],
 p 16 .mv [.s 19]])
 (.cond (.s 16) (.reg [
 p 20 (.load (some 28)) [.s 4],
 p 21 (.call 218) [.s 20],
  ⟨501, false, .store 28, [.s 6, .s 21], none, [], []⟩,
 p 8 .mv [.c (.int .i64 13)]])
 (.seq (.reg [
 p 23 (.faddr 3) [.s 6],
 p 24 (.load none) [.s 23],
 p 25 (.faddr 3) [.s 4],
 p 26 (.load none) [.s 25],
 p 27 (.bin .neq) [.s 24, .s 26],
 p 22 .mv [.s 27]])
 (.cond (.s 22) (.reg [
 p 8 .mv [.c (.int .i64 7)]])
 .skip)))))
 (.seq (.reg [
 p 28 (.load (some 28)) [.s 6],
 p 29 .mv [.s 7],
 p 30 .mv [.s 8],
  ⟨502, false, .store 28, [.s 6, .s 28], none, [], []⟩,
 p 7 .mv [.s 29],
 p 8 .mv [.s 30]])
 .ret))))
def F229 : AFun := cloneOf 1 8 [zz]
def F230 : AFun where
  n := 14
  res := []
  code := (.seq (.reg [
 p 4 .mv [.s 0],
 p 5 .mv [.s 1],
 p 6 (.slice 28 false true) [.s 4, .s 5],
 p 7 (.call 289) [.s 6]])
 (.seq (.reg [
 p 8 .mv [.s 0],
 p 9 .mv [.s 1],
 p 10 (.slice 28 true false) [.s 8, .s 9],
 p 11 (.call 289) [.s 10]])
 (.reg [
 p 12 .mv [.s 0],
 p 13 (.call 289) [.s 12]])))
def F231 : AFun where
  n := 103
  res := [.cell 2 (some 3), .tmp 3]
  code := (.seq (.reg [
 p 2 (.zero [zz, zz, et]) [],
 p 3 .mv [.c ff]])
 (.seq (.seq (.reg [
 p 12 .mv [.s 0],
 p 13 (.call 290) [.s 12],
 p 14 (.un .not) [.s 13]])
 (.cond (.s 14) (.seq (.reg [
 p 15 (.build [zz, zz, et] []) [],
  ⟨500, false, .store 3, [.s 2, .s 15], none, [], []⟩,
 p 3 .mv [.c ff]])
 .ret)
 .skip))
 (.seq (.reg [
 p 16 (.build [zz, zz, et] []) [],
 p 4 (.zero [zz, zz, et]) [],
  ⟨501, false, .store 3, [.s 4, .s 16], none, [], []⟩])
 (.seq (.reg [
 p 17 .mv [.s 0],
 p 18 (.call 291) [.s 17],
 p 5 .mv [.s 18]])
 (.seq (.reg [
 p 20 .mv [.s 0],
 p 21 (.call 292) [.s 20],
 p 19 .mv [.s 21],
 p 22 (.extract 0) [.s 19],
 p 23 (.extract 1) [.s 19],
 p 6 .mv [.s 22],
 p 7 .mv [.s 23]])
 (.seq (.reg [
 p 8 .mv [.c zz]])
 (.seq (.seq (.reg [
 p 9 .mv [.c zz]])
 (.block 0 (.loop (.seq (.seq (.reg [
 p 24 .mv [.s 9],
 p 25 .mv [.s 0],
 p 26 .len [.s 25],
 p 27 (.bin .lss) [.s 24, .s 26]])
 (.cond (.s 27) .skip
 (.exit 0)))
 (.seq (.block 1 (.seq (.drw [
 p 30 (.faddr 0) [.s 4],
  ⟨31, true, .load none, [.s 30], none, [4], []⟩,
 p 32 .mv [.s 5],
 p 33 .mv [.s 9],
  ⟨34, true, .iaddr 1, [.s 32, .s 33], none, [18], []⟩,
  ⟨35, true, .load none, [.s 34], none, [18], []⟩,
 p 36 (.bin .add) [.s 31, .s 35],
 p 37 .mv [.s 8],
 p 38 .mv [.s 5],
 p 39 .mv [.s 9],
  ⟨40, true, .iaddr 1, [.s 38, .s 39], none, [18], []⟩,
  ⟨41, true, .load none, [.s 40], none, [18], []⟩,
 p 42 (.bin .add) [.s 37, .s 41],
 p 43 (.faddr 0) [.s 4],
  ⟨502, false, .store 1, [.s 43, .s 36], none, [4], [4]⟩,
 p 8 .mv [.s 42]])
 (.seq (.seq (.reg [
 p 44 .mv [.s 0],
 p 45 .mv [.s 9],
 p 46 (.iaddr 4) [.s 44, .s 45],
 p 47 (.faddr 0) [.s 46],
 p 48 (.load none) [.s 47],
 p 49 (.bin .eql) [.s 48, .c (.int .i64 11)],
 p 50 .mv [.s 49],
  ⟨51, true, .mv, [.s 0], (some (50, false)), [], []⟩,
  ⟨52, true, .mv, [.s 9], (some (50, false)), [], []⟩,
  ⟨53, true, .iaddr 4, [.s 51, .s 52], (some (50, false)), [], []⟩,
  ⟨54, true, .faddr 0, [.s 53], (some (50, false)), [], []⟩,
  ⟨55, true, .load none, [.s 54], (some (50, false)), [], []⟩,
  ⟨56, true, .bin .eql, [.s 55, .c zz], (some (50, false)), [], []⟩,
 p 57 .pick [.s 50, .c (.bool true), .s 56]])
 (.cond (.s 57) (.reg [
 p 58 (.faddr 1) [.s 4],
 p 59 (.load none) [.s 58],
 p 60 .mv [.s 8],
 p 61 .most [.s 59, .s 60],
 p 62 (.faddr 1) [.s 4],
  ⟨503, false, .store 1, [.s 62, .s 61], none, [], []⟩,
 p 8 .mv [.c zz]])
 .skip))
 (.seq (.reg [
 p 63 .mv [.s 0],
 p 64 .mv [.s 9],
 p 65 (.iaddr 4) [.s 63, .s 64],
 p 66 (.faddr 0) [.s 65],
 p 67 (.load none) [.s 66],
 p 68 (.bin .eql) [.s 67, .c (.int .i64 9)]])
 (.cond (.s 68) (.seq (.reg [
 p 10 .mv [.c zz]])
 (.seq (.seq (.reg [
 p 69 .mv [.s 9],
 p 70 (.bin .add) [.s 69, .c (.int .i64 1)],
 p 11 .mv [.s 70]])
 (.block 2 (.loop (.seq (.seq (.reg [
 p 71 .mv [.s 11],
 p 72 .mv [.s 6],
 p 73 .mv [.s 9],
 p 74 (.iaddr 1) [.s 72, .s 73],
 p 75 (.load none) [.s 74],
 p 76 (.bin .leq) [.s 71, .s 75]])
 (.cond (.s 76) .skip
 (.exit 2)))
 (.seq (.block 3 (.reg [
 p 79 .mv [.s 10],
 p 80 .mv [.s 5],
 p 81 .mv [.s 11],
 p 82 (.iaddr 1) [.s 80, .s 81],
 p 83 (.load none) [.s 82],
 p 84 (.bin .add) [.s 79, .s 83],
 p 10 .mv [.s 84]]))
 (.reg [
 p 77 .mv [.s 11],
 p 78 (.bin .add) [.s 77, .c (.int .i64 1)],
 p 11 .mv [.s 78]]))))))
 (.drw [
 p 85 (.faddr 2) [.s 4],
  ⟨86, true, .load none, [.s 85], none, [4], []⟩,
 p 87 .mv [.s 0],
 p 88 .mv [.s 9],
 p 89 (.iaddr 4) [.s 87, .s 88],
 p 90 (.faddr 1) [.s 89],
 p 91 (.load none) [.s 90],
 p 92 .mv [.s 10],
 p 93 .mv [.s 5],
 p 94 .mv [.s 9],
  ⟨95, true, .iaddr 1, [.s 93, .s 94], none, [18], []⟩,
  ⟨96, true, .load none, [.s 95], none, [18], []⟩,
 p 97 (.bin .quo) [.s 92, .s 96],
 p 98 (.build [zz, zz] [(0, 1), (1, 1)]) [.s 91, .s 97],
 p 99 (.buildSl 2 [zz, zz] 1 [0]) [.s 98],
  ⟨100, true, .app 2 16 [zz, zz], [.s 86, .s 99], none, [99, 100], [99, 100]⟩,
 p 101 (.faddr 2) [.s 4],
  ⟨504, false, .store 1, [.s 101, .s 100], none, [4, 99, 100], [4]⟩])))
 .skip)))))
 (.reg [
 p 28 .mv [.s 9],
 p 29 (.bin .add) [.s 28, .c (.int .i64 1)],
 p 9 .mv [.s 29]]))))))
 (.seq (.reg [
 p 102 (.load (some 3)) [.s 4],
  ⟨505, false, .store 3, [.s 2, .s 102], none, [], []⟩,
 p 3 .mv [.c (.bool true)]])
 .ret))))))))
def F232 : AFun where
  n := 16
  res := [.tmp 2]
  code := (.seq (.reg [
 p 2 .mv [.c ff]])
 (.seq (.seq (.reg [
 p 3 .mv [.c zz]])
 (.block 0 (.loop (.seq (.seq (.reg [
 p 4 .mv [.s 3],
 p 5 .mv [.s 0],
 p 6 .len [.s 5],
 p 7 (.bin .lss) [.s 4, .s 6]])
 (.cond (.s 7) .skip
 (.exit 0)))
 (.seq (.block 1 (.seq (.reg [
 p 10 .mv [.s 0],
 p 11 .mv [.s 3],
 p 12 (.iaddr 4) [.s 10, .s 11],
 p 13 (.faddr 0) [.s 12],
 p 14 (.load none) [.s 13],
 p 15 (.bin .eql) [.s 14, .c (.int .i64 9)]])
 (.cond (.s 15) (.seq (.reg [
 p 2 .mv [.c (.bool true)]])
 .ret)
 .skip)))
 (.reg [
 p 8 .mv [.s 3],
 p 9 (.bin .add) [.s 8, .c (.int .i64 1)],
 p 3 .mv [.s 9]]))))))
 (.seq (.reg [
 p 2 .mv [.c ff]])
 .ret)))
def F233 : AFun where
  n := 34
  res := [.tmp 2]
  code := (.seq (.reg [
 p 2 .mv [.c ff]])
 (.seq (.seq (.reg [
 p 3 .mv [.c zz]])
 (.block 0 (.loop (.seq (.seq (.reg [
 p 4 .mv [.s 3],
 p 5 .mv [.s 0],
 p 6 .len [.s 5],
 p 7 (.bin .lss) [.s 4, .s 6]])
 (.cond (.s 7) .skip
 (.exit 0)))
 (.seq (.block 1 (.seq (.drw [
 p 10 .mv [.s 0],
 p 11 .mv [.s 3],
 p 12 (.iaddr 6) [.s 10, .s 11],
 p 13 (.load (some 6)) [.s 12],
 p 14 (.call 160) [.s 13],
 p 15 (.bin .neq) [.s 14, .c zz],
 p 16 .mv [.s 15],
  ⟨17, true, .mv, [.s 3], (some (16, false)), [], []⟩,
  ⟨18, true, .bin .gtr, [.s 17, .c zz], (some (16, false)), [], []⟩,
  ⟨19, true, .mv, [.s 18], (some (16, false)), [], []⟩,
  ⟨20, true, .mv, [.s 0], (some (19, true)), [], []⟩,
  ⟨21, true, .mv, [.s 3], (some (19, true)), [], []⟩,
  ⟨22, true, .iaddr 6, [.s 20, .s 21], (some (19, true)), [], []⟩,
  ⟨23, true, .faddr 0, [.s 22], (some (19, true)), [], []⟩,
  ⟨24, true, .load none, [.s 23], (some (19, true)), [], []⟩,
  ⟨25, true, .mv, [.s 0], (some (19, true)), [], []⟩,
  ⟨26, true, .mv, [.s 3], (some (19, true)), [], []⟩,
  ⟨27, true, .bin .sub, [.s 26, .c (.int .i64 1)], (some (19, true)), [], []⟩,
  ⟨28, true, .iaddr 6, [.s 25, .s 27], (some (19, true)), [], []⟩,
  ⟨29, true, .faddr 0, [.s 28], (some (19, true)), [], []⟩,
  ⟨30, true, .load none, [.s 29], (some (19, true)), [], []⟩,
  ⟨31, true, .bin .leq, [.s 24, .s 30], (some (19, true)), [], []⟩,
  ⟨32, true, .pick, [.s 19, .s 31, .c ff], (some (16, false)), [], []⟩,
 p 33 .pick [.s 16, .c (.bool true), .s 32]])
 (.cond (.s 33) (.seq (.reg [
 p 2 .mv [.c ff]])
 .ret)
 .skip)))
 (.reg [
 p 8 .mv [.s 3],
 p 9 (.bin .add) [.s 8, .c (.int .i64 1)],
 p 3 .mv [.s 9]]))))))
 (.seq (.reg [
 p 2 .mv [.c (.bool true)]])
 .ret)))
def F234 : AFun where
  n := 66
  res := [.tmp 6, .tmp 7, .tmp 8]
  code := (.seq (.reg [
 p 6 .mv [.c zz],
 p 7 .mv [.c zz],
 p 8 .mv [.c zz]])
 (.seq (.seq (.reg [
 p 14 .mv [.s 0],
 p 15 (.call 233) [.s 14],
 p 16 (.un .not) [.s 15],
 p 17 .mv [.s 16],
  ⟨18, true, .mv, [.s 1], (some (17, false)), [], []⟩,
  ⟨19, true, .bin .lss, [.s 18, .c zz], (some (17, false)), [], []⟩,
 p 20 .pick [.s 17, .c (.bool true), .s 19],
 p 21 .mv [.s 20],
  ⟨22, true, .mv, [.s 1], (some (21, false)), [], []⟩,
  ⟨23, true, .mv, [.s 0], (some (21, false)), [], []⟩,
  ⟨24, true, .len, [.s 23], (some (21, false)), [], []⟩,
  ⟨25, true, .bin .geq, [.s 22, .s 24], (some (21, false)), [], []⟩,
 p 26 .pick [.s 21, .c (.bool true), .s 25],
 p 27 .mv [.s 26],
  ⟨28, true, .mv, [.s 2], (some (27, false)), [], []⟩,
  ⟨29, true, .bin .lss, [.s 28, .c (.int .i64 1)], (some (27, false)), [], []⟩,
 p 30 .pick [.s 27, .c (.bool true), .s 29]])
 (.cond (.s 30) (.seq (.reg [
 p 6 .mv [.c zz],
 p 7 .mv [.c zz],
 p 8 .mv [.c (.int .i64 1)]])
 .ret)
 .skip))
 (.seq (.reg [
 p 31 .mv [.s 0],
 p 32 .mv [.s 1],
 p 33 (.call 293) [.s 31, .s 32],
 p 9 (.zero [et, zz, zz, et]) [],
  ⟨500, false, .store 4, [.s 9, .s 33], none, [], []⟩])
 (.seq (.drw [
 p 34 (.faddr 0) [.s 9],
  ⟨35, true, .load none, [.s 34], none, [9], []⟩,
 p 36 .mv [.s 1],
  ⟨37, true, .iaddr 1, [.s 35, .s 36], none, [33], []⟩,
  ⟨38, true, .load none, [.s 37], none, [33], []⟩,
 p 39 (.faddr 2) [.s 9],
  ⟨40, true, .load none, [.s 39], none, [9], []⟩,
 p 41 (.bin .add) [.s 38, .s 40],
 p 10 .mv [.s 41]])
 (.seq (.reg [
 p 11 .mv [.c (.int .i64 1)]])
 (.block 0 (.loop (.seq (.block 1 (.seq (.reg [
 p 45 (.load (some 4)) [.s 9],
 p 46 .mv [.s 2],
 p 47 .mv [.s 10],
 p 48 (.call 294) [.s 45, .s 46, .s 47],
 p 44 .mv [.s 48],
 p 49 (.extract 0) [.s 44],
 p 50 (.extract 1) [.s 44],
 p 12 .mv [.s 49],
 p 13 .mv [.s 50]])
 (.seq (.seq (.reg [
 p 51 .mv [.s 13],
 p 52 (.un .not) [.s 51]])
 (.cond (.s 52) (.seq (.reg [
 p 6 .mv [.c zz],
 p 7 .mv [.c zz],
 p 8 .mv [.c (.int .i64 13)]])
 .ret)
 .skip))
 (.seq (.seq (.reg [
 p 53 .mv [.s 12],
 p 54 .mv [.s 0],
 p 55 .mv [.s 1],
 p 56 (.iaddr 6) [.s 54, .s 55],
 p 57 (.faddr 2) [.s 56],
 p 58 (.load none) [.s 57],
 p 59 (.bin .gtr) [.s 53, .s 58]])
 (.cond (.s 59) (.seq (.reg [
 p 6 .mv [.c zz],
 p 7 .mv [.c zz],
 p 8 .mv [.c (.int .i64 14)]])
 .ret)
 .skip))
 (.seq (.seq (.reg [
 p 60 .mv [.s 12],
 p 61 .mv [.s 10],
 p 62 (.bin .eql) [.s 60, .s 61]])
 (.cond (.s 62) (.seq (.reg [
 p 63 .mv [.s 10],
 p 64 .mv [.s 11],
 p 6 .mv [.s 63],
 p 7 .mv [.s 64],
 p 8 .mv [.c zz]])
 .ret)
 .skip))
 (.reg [
 p 65 .mv [.s 12],
 p 10 .mv [.s 65]]))))))
 (.reg [
 p 42 .mv [.s 11],
 p 43 (.bin .add) [.s 42, .c (.int .i64 1)],
 p 11 .mv [.s 43]])))))))))
def F235 : AFun where
  n := 43
  res := [.tmp 2, .tmp 3, .tmp 4]
  code := (.seq (.reg [
 p 1 (.box 6) [.s 0],
 p 2 .mv [.c zz],
 p 3 .mv [.c zz],
 p 4 .mv [.c et]])
 (.seq (.seq (.reg [
 p 10 (.load (some 6)) [.s 1],
 p 11 (.call 160) [.s 10],
 p 12 (.bin .neq) [.s 11, .c zz]])
 (.cond (.s 12) (.seq (.reg [
 p 2 .mv [.c zz],
 p 3 .mv [.c zz],
 p 4 .mv [.c et]])
 .ret)
 .skip))
 (.seq (.reg [
 p 14 (.faddr 3) [.s 1],
 p 15 (.load none) [.s 14],
 p 16 (.call 231) [.s 15],
 p 13 .mv [.s 16],
 p 17 (.extract 0) [.s 13],
 p 18 (.extract 1) [.s 13],
 p 5 (.zero [zz, zz, et]) [],
  ⟨500, false, .store 3, [.s 5, .s 17], none, [], []⟩,
 p 6 .mv [.s 18]])
 (.seq (.reg [
 p 20 (.faddr 4) [.s 1],
 p 21 (.load none) [.s 20],
 p 22 (.call 231) [.s 21],
 p 19 .mv [.s 22],
 p 23 (.extract 0) [.s 19],
 p 24 (.extract 1) [.s 19],
 p 7 (.zero [zz, zz, et]) [],
  ⟨501, false, .store 3, [.s 7, .s 23], none, [], []⟩,
 p 8 .mv [.s 24]])
 (.seq (.reg [
 p 25 (.faddr 1) [.s 5],
 p 26 (.load none) [.s 25],
 p 9 .mv [.s 26]])
 (.seq (.seq (.reg [
 p 27 (.faddr 4) [.s 1],
 p 28 (.load none) [.s 27],
 p 29 .len [.s 28],
 p 30 (.bin .gtr) [.s 29, .c zz]])
 (.cond (.s 30) (.reg [
 p 31 (.faddr 0) [.s 7],
 p 32 (.load none) [.s 31],
 p 9 .mv [.s 32]])
 .skip))
 (.seq (.drw [
 p 33 (.faddr 0) [.s 5],
  ⟨34, true, .load none, [.s 33], none, [5], []⟩,
 p 35 .mv [.s 9],
 p 36 (.buildSl 2 [zz, zz] 0 []) [],
 p 37 (.faddr 2) [.s 5],
  ⟨38, true, .load none, [.s 37], none, [5], []⟩,
  ⟨39, true, .app 2 16 [zz, zz], [.s 36, .s 38], none, [36, 16], [36]⟩,
 p 40 (.faddr 2) [.s 7],
  ⟨41, true, .load none, [.s 40], none, [7], []⟩,
  ⟨42, true, .app 2 16 [zz, zz], [.s 39, .s 41], none, [36, 16, 39, 22], [36, 16, 39]⟩,
 p 2 .mv [.s 34],
 p 3 .mv [.s 35],
 p 4 .mv [.s 42]])
 .ret)))))))
def F236 : AFun where
  n := 52
  res := [.tmp 4]
  code := (.seq (.reg [
 p 4 .mv [.c zz]])
 (.seq (.reg [
 p 5 .mv [.c zz]])
 (.seq (.seq (.reg [
 p 6 .mv [.c zz]])
 (.block 0 (.loop (.seq (.seq (.reg [
 p 11 .mv [.s 6],
 p 12 .mv [.s 0],
 p 13 .len [.s 12],
 p 14 (.bin .lss) [.s 11, .s 13]])
 (.cond (.s 14) .skip
 (.exit 0)))
 (.seq (.block 1 (.seq (.seq (.reg [
 p 17 .mv [.s 6],
 p 18 .mv [.s 1],
 p 19 (.bin .eql) [.s 17, .s 18]])
 (.cond (.s 19) (.exit 1)
 .skip))
 (.seq (.reg [
 p 21 .mv [.s 0],
 p 22 .mv [.s 6],
 p 23 (.iaddr 6) [.s 21, .s 22],
 p 24 (.load (some 6)) [.s 23],
 p 25 (.call 235) [.s 24],
 p 20 .mv [.s 25],
 p 26 (.extract 0) [.s 20],
 p 27 (.extract 1) [.s 20],
 p 28 (.extract 2) [.s 20],
 p 7 .mv [.s 26],
 p 8 .mv [.s 27],
 p 9 .mv [.s 28]])
 (.seq (.reg [
 p 10 .mv [.c zz]])
 (.block 2 (.loop (.seq (.seq (.reg [
 p 29 .mv [.s 10],
 p 30 .mv [.s 9],
 p 31 .len [.s 30],
 p 32 (.bin .lss) [.s 29, .s 31]])
 (.cond (.s 32) .skip
 (.exit 2)))
 (.seq (.block 3 (.seq (.reg [
 p 35 .mv [.s 0],
 p 36 .mv [.s 9],
 p 37 .mv [.s 10],
 p 38 (.iaddr 2) [.s 36, .s 37],
 p 39 (.faddr 0) [.s 38],
 p 40 (.load none) [.s 39],
 p 41 (.call 165) [.s 35, .s 40],
 p 42 .mv [.s 1],
 p 43 (.bin .leq) [.s 41, .s 42]])
 (.cond (.s 43) (.reg [
 p 44 .mv [.s 5],
 p 45 .mv [.s 9],
 p 46 .mv [.s 10],
 p 47 (.iaddr 2) [.s 45, .s 46],
 p 48 (.faddr 1) [.s 47],
 p 49 (.load none) [.s 48],
 p 50 .most [.s 44, .s 49],
 p 5 .mv [.s 50]])
 .skip)))
 (.reg [
 p 33 .mv [.s 10],
 p 34 (.bin .add) [.s 33, .c (.int .i64 1)],
 p 10 .mv [.s 34]])))))))))
 (.reg [
 p 15 .mv [.s 6],
 p 16 (.bin .add) [.s 15, .c (.int .i64 1)],
 p 6 .mv [.s 16]]))))))
 (.seq (.reg [
 p 51 .mv [.s 5],
 p 4 .mv [.s 51]])
 .ret))))
def F246 : AFun where
  n := 9
  res := [.tmp 2]
  code := (.seq (.reg [
 p 2 .mv [.c ff]])
 (.seq (.reg [
 p 3 .mv [.s 0],
 p 4 (.bin .geq) [.s 3, .c zz],
 p 5 .mv [.s 4],
  ⟨6, true, .mv, [.s 0], (some (5, true)), [], []⟩,
  ⟨7, true, .bin .lss, [.s 6, .c (.int .i64 8)], (some (5, true)), [], []⟩,
 p 8 .pick [.s 5, .s 7, .c ff],
 p 2 .mv [.s 8]])
 .ret))
def F247 : AFun where
  n := 15
  res := [.tmp 6]
  code := (.seq (.reg [
 p 6 .mv [.c ff]])
 (.seq (.reg [
 p 7 .mv [.s 0],
 p 8 .mv [.s 1],
 p 9 (.bin .geq) [.s 7, .s 8],
 p 10 .mv [.s 9],
  ⟨11, true, .mv, [.s 0], (some (10, true)), [], []⟩,
  ⟨12, true, .mv, [.s 2], (some (10, true)), [], []⟩,
  ⟨13, true, .bin .leq, [.s 11, .s 12], (some (10, true)), [], []⟩,
 p 14 .pick [.s 10, .s 13, .c ff],
 p 6 .mv [.s 14]])
 .ret))
def F258 : AFun where
  n := 19
  res := [.tmp 4]
  code := (.seq (.reg [
 p 4 .mv [.c zz]])
 (.seq (.seq (.reg [
 p 6 .mv [.s 0],
 p 7 .len [.s 6],
 p 8 .mv [.c zz]])
 (.block 0 (.loop (.seq (.reg [
 p 9 (.bin .lss) [.s 8, .s 7]])
 (.seq (.cond (.s 9) .skip
 (.exit 0))
 (.seq (.block 1 (.seq (.reg [
 p 10 .mv [.s 8],
 p 5 .mv [.s 10]])
 (.seq (.reg [
 p 11 .mv [.s 1],
 p 12 .mv [.s 0],
 p 13 .mv [.s 5],
 p 14 (.iaddr 1) [.s 12, .s 13],
 p 15 (.load none) [.s 14],
 p 16 (.eqv false [none] false) [.s 11, .s 15]])
 (.cond (.s 16) (.seq (.reg [
 p 17 .mv [.s 5],
 p 4 .mv [.s 17]])
 .ret)
 .skip))))
 (.reg [
 p 18 (.bin .add) [.s 8, .c (.int .i64 1)],
 p 8 .mv [.s 18]])))))))
 (.seq (.reg [
 p 4 .mv [.c (.int .i64 (-1))]])
 .ret)))
def F260 : AFun where
  n := 19
  res := [.tmp 4]
  code := (.seq (.reg [
 p 4 .mv [.c zz]])
 (.seq (.seq (.reg [
 p 6 .mv [.s 0],
 p 7 .len [.s 6],
 p 8 .mv [.c zz]])
 (.block 0 (.loop (.seq (.reg [
 p 9 (.bin .lss) [.s 8, .s 7]])
 (.seq (.cond (.s 9) .skip
 (.exit 0))
 (.seq (.block 1 (.seq (.reg [
 p 10 .mv [.s 8],
 p 5 .mv [.s 10]])
 (.seq (.reg [
 p 11 .mv [.s 1],
 p 12 .mv [.s 0],
 p 13 .mv [.s 5],
 p 14 (.iaddr 4) [.s 12, .s 13],
 p 15 (.load (some 4)) [.s 14],
 p 16 .callv [.s 11, .s 15]])
 (.cond (.s 16) (.seq (.reg [
 p 17 .mv [.s 5],
 p 4 .mv [.s 17]])
 .ret)
 .skip))))
 (.reg [
 p 18 (.bin .add) [.s 8, .c (.int .i64 1)],
 p 8 .mv [.s 18]])))))))
 (.seq (.reg [
 p 4 .mv [.c (.int .i64 (-1))]])
 .ret)))
def F261 : AFun where
  n := 27
  res := [.tmp 4]
  code := (.seq (.reg [
 p 4 .mv [.c et]])
 (.seq (.seq (.reg [
 p 5 .mv [.s 1],
 p 6 (.bin .lss) [.s 5, .c zz]])
 (.cond (.s 6) (.reg [
 p 7 .bad [],
  ⟨500, false, .bad, [], none, [], []⟩])
 .skip))
 (.seq (.seq (.reg [
 p 8 .mv [.s 1],
 p 9 .mv [.s 0],
 p 10 .capE [.s 9],
 p 11 .mv [.s 0],
 p 12 .len [.s 11],
 p 13 (.bin .sub) [.s 10, .s 12],
 p 14 (.bin .sub) [.s 8, .s 13],
 p 1 .mv [.s 14]])
 (.seq (.reg [
 p 15 .mv [.s 1],
 p 16 (.bin .gtr) [.s 15, .c zz]])
 (.cond (.s 16) (.reg [
 p 17 .mv [.s 0],
 p 18 .mv [.s 0],
 p 19 .capE [.s 18],
 p 20 (.slice 4 false true) [.s 17, .s 19],
 p 21 .mv [.s 1],
 p 22 (.appZ 32 [zz, zz, zz, zz]) [.s 20, .s 21],
 p 23 .mv [.s 0],
 p 24 .len [.s 23],
 p 25 (.slice 4 false true) [.s 22, .s 24],
 p 0 .mv [.s 25]])
 .skip)))
 (.seq (.reg [
 p 26 .mv [.s 0],
 p 4 .mv [.s 26]])
 .ret))))
def F262 : AFun where
  n := 12
  res := [.tmp 3]
  code := (.seq (.reg [
 p 2 (.box 6) [.s 0],
 p 3 .mv [.c ff]])
 (.seq (.reg [
 p 4 (.faddr 3) [.s 2],
 p 5 (.load none) [.s 4],
 p 6 (.faddr 4) [.s 2],
 p 7 (.load none) [.s 6],
 p 8 (.buildSl 1 [se] 2 [0, 1]) [.s 5, .s 7],
 p 9 (.call 202) [.s 8],
 p 10 (.mkfn 263 0) [.s 1],
 p 11 (.call 201) [.s 9, .s 10],
 p 3 .mv [.s 11]])
 .ret))
def F263 : AFun where
  n := 13
  res := [.tmp 3]
  code := (.seq (.reg [
 p 2 (.box 4) [.s 0],
 p 3 .mv [.c ff]])
 (.seq (.reg [
 p 4 (.faddr 0) [.s 2],
 p 5 (.load none) [.s 4],
 p 6 (.bin .eql) [.s 5, .c (.int .i64 9)],
 p 7 .mv [.s 6],
  ⟨8, true, .faddr 1, [.s 2], (some (7, true)), [], []⟩,
  ⟨9, true, .load none, [.s 8], (some (7, true)), [], []⟩,
  ⟨10, true, .load none, [.s 1], (some (7, true)), [], []⟩,
  ⟨11, true, .bin .eql, [.s 9, .s 10], (some (7, true)), [], []⟩,
 p 12 .pick [.s 7, .s 11, .c ff],
 p 3 .mv [.s 12]])
 .ret))
def F265 : AFun := sealF
def F267 : AFun where
  n := 8
  res := [.cell 2 (some 2), .tmp 3]
  code := (.seq (.reg [
 p 1 (.box 2) [.s 0],
 p 2 (.zero [et, et]) [],
 p 3 .mv [.c et]])
 (.seq (.reg [
 p 4 (.build [et, et] []) [],
 p 5 (.faddr 1) [.s 1],
 p 6 (.load none) [.s 5],
 p 7 (.call 137) [.s 6],
  ⟨500, false, .store 2, [.s 2, .s 4], none, [], []⟩,
 p 3 .mv [.s 7]])
 .ret))
def F268 : AFun where
  n := 21
  res := [.cell 2 (some 2), .tmp 3]
  code := (.seq (.reg [
 p 1 (.box 2) [.s 0],
 p 2 (.zero [(.int .u32 0), et]) [],
 p 3 .mv [.c et]])
 (.seq (.seq (.reg [
 p 6 (.faddr 1) [.s 1],
 p 7 (.load none) [.s 6],
 p 8 .len [.s 7],
 p 9 .mv [.c zz]])
 (.block 0 (.loop (.seq (.reg [
 p 10 (.bin .lss) [.s 9, .s 8]])
 (.seq (.cond (.s 10) .skip
 (.exit 0))
 (.seq (.block 1 (.seq (.reg [
 p 11 (.iaddr 2) [.s 7, .s 9],
 p 12 (.load (some 2)) [.s 11],
 p 5 (.zero [zz, (.int .u32 0)]) [],
  ⟨500, false, .store 2, [.s 5, .s 12], none, [], []⟩])
 (.reg [
 p 13 .mv [.s 3],
 p 14 (.faddr 0) [.s 5],
 p 15 (.load none) [.s 14],
 p 16 (.buildSl 1 [zz] 1 [0]) [.s 15],
 p 17 (.app 1 8 [zz]) [.s 13, .s 16],
 p 3 .mv [.s 17]])))
 (.reg [
 p 18 (.bin .add) [.s 9, .c (.int .i64 1)],
 p 9 .mv [.s 18]])))))))
 (.seq (.reg [
 p 19 (.load (some 2)) [.s 2],
 p 20 .mv [.s 3],
  ⟨501, false, .store 2, [.s 2, .s 19], none, [], []⟩,
 p 3 .mv [.s 20]])
 .ret)))
def F269 : AFun where
  n := 36
  res := [.tmp 2]
  code := (.seq (.reg [
 p 2 .mv [.c et]])
 (.seq (.reg [
 p 3 .mv [.c zz]])
 (.seq (.seq (.reg [
 p 9 .mv [.s 0],
 p 10 .len [.s 9],
 p 11 .mv [.c zz]])
 (.block 0 (.loop (.seq (.reg [
 p 12 (.bin .lss) [.s 11, .s 10]])
 (.seq (.cond (.s 12) .skip
 (.exit 0))
 (.seq (.block 1 (.seq (.reg [
 p 13 (.iaddr 1) [.s 9, .s 11],
 p 14 (.load none) [.s 13],
 p 5 .mv [.s 14]])
 (.seq (.reg [
 p 15 .mv [.s 3],
 p 16 .mv [.s 5],
 p 17 .len [.s 16],
 p 18 (.bin .add) [.s 15, .s 17],
 p 3 .mv [.s 18]])
 (.seq (.reg [
 p 19 .mv [.s 3],
 p 20 (.bin .lss) [.s 19, .c zz]])
 (.cond (.s 20) (.reg [
 p 21 .bad [],
  ⟨500, false, .bad, [], none, [], []⟩])
 .skip)))))
 (.reg [
 p 22 (.bin .add) [.s 11, .c (.int .i64 1)],
 p 11 .mv [.s 22]])))))))
 (.seq (.reg [
 p 23 .mv [.s 3],
 p 24 (.call 315) [.c et, .s 23],
 p 6 .mv [.s 24]])
 (.seq (.seq (.reg [
 p 25 .mv [.s 0],
 p 26 .len [.s 25],
 p 27 .mv [.c zz]])
 (.block 2 (.loop (.seq (.reg [
 p 28 (.bin .lss) [.s 27, .s 26]])
 (.seq (.cond (.s 28) .skip
 (.exit 2))
 (.seq (.block 3 (.seq (.reg [
 p 29 (.iaddr 1) [.s 25, .s 27],
 p 30 (.load none) [.s 29],
 p 8 .mv [.s 30]])
 (.reg [
 p 31 .mv [.s 6],
 p 32 .mv [.s 8],
 p 33 (.app 1 8 [zz]) [.s 31, .s 32],
 p 6 .mv [.s 33]])))
 (.reg [
 p 34 (.bin .add) [.s 27, .c (.int .i64 1)],
 p 27 .mv [.s 34]])))))))
 (.seq (.reg [
 p 35 .mv [.s 6],
 p 2 .mv [.s 35]])
 .ret))))))
def F270 : AFun := cloneOf 2 16 [zz, zz]
def F271 : AFun where
  n := 24
  res := [.tmp 6]
  code := (.seq (.reg [
 p 6 .mv [.c ff]])
 (.seq (.reg [
 p 7 .mv [.s 0],
 p 8 .mv [.s 1],
 p 9 (.call 286) [.s 7, .s 8],
 p 10 .mv [.s 9],
  ⟨11, true, .mv, [.s 2], (some (10, true)), [], []⟩,
  ⟨12, true, .bin .geq, [.s 11, .c zz], (some (10, true)), [], []⟩,
 p 13 .pick [.s 10, .s 12, .c ff],
 p 14 .mv [.s 13],
  ⟨15, true, .mv, [.s 0], (some (14, true)), [], []⟩,
  ⟨16, true, .mv, [.s 1], (some (14, true)), [], []⟩,
  ⟨17, true, .iaddr 2, [.s 15, .s 16], (some (14, true)), [], []⟩,
  ⟨18, true, .faddr 1, [.s 17], (some (14, true)), [], []⟩,
  ⟨19, true, .load none, [.s 18], (some (14, true)), [], []⟩,
  ⟨20, true, .mv, [.s 2], (some (14, true)), [], []⟩,
  ⟨21, true, .bin .add, [.s 20, .c (.int .i64 1)], (some (14, true)), [], []⟩,
  ⟨22, true, .bin .eql, [.s 19, .s 21], (some (14, true)), [], []⟩,
 p 23 .pick [.s 14, .s 22, .c ff],
 p 6 .mv [.s 23]])
 .ret))
def F272 : AFun where
  n := 18
  res := [.tmp 4]
  code := (.seq (.reg [
 p 2 (.box 2) [.s 0],
 p 4 .mv [.c ff]])
 (.seq (.reg [
 p 5 .mv [.s 1],
 p 6 (.bin .geq) [.s 5, .c zz],
 p 7 .mv [.s 6],
  ⟨8, true, .mv, [.s 1], (some (7, true)), [], []⟩,
  ⟨9, true, .faddr 0, [.s 2], (some (7, true)), [], []⟩,
  ⟨10, true, .load none, [.s 9], (some (7, true)), [], []⟩,
  ⟨11, true, .len, [.s 10], (some (7, true)), [], []⟩,
  ⟨12, true, .faddr 1, [.s 2], (some (7, true)), [], []⟩,
  ⟨13, true, .load none, [.s 12], (some (7, true)), [], []⟩,
  ⟨14, true, .len, [.s 13], (some (7, true)), [], []⟩,
  ⟨15, true, .least, [.s 11, .s 14], (some (7, true)), [], []⟩,
  ⟨16, true, .bin .lss, [.s 8, .s 15], (some (7, true)), [], []⟩,
 p 17 .pick [.s 7, .s 16, .c ff],
 p 4 .mv [.s 17]])
 .ret))
def F273 : AFun where
  n := 9
  res := [.tmp 4]
  code := (.seq (.reg [
 p 4 .mv [.c ff]])
 (.seq (.reg [
 p 5 .mv [.s 0],
 p 6 .mv [.s 1],
 p 7 (.call 258) [.s 5, .s 6],
 p 8 (.bin .geq) [.s 7, .c zz],
 p 4 .mv [.s 8]])
 .ret))
def F274 : AFun where
  n := 19
  res := [.tmp 4]
  code := (.seq (.reg [
 p 4 .mv [.c zz]])
 (.seq (.seq (.reg [
 p 6 .mv [.s 0],
 p 7 .len [.s 6],
 p 8 .mv [.c zz]])
 (.block 0 (.loop (.seq (.reg [
 p 9 (.bin .lss) [.s 8, .s 7]])
 (.seq (.cond (.s 9) .skip
 (.exit 0))
 (.seq (.block 1 (.seq (.reg [
 p 10 .mv [.s 8],
 p 5 .mv [.s 10]])
 (.seq (.reg [
 p 11 .mv [.s 1],
 p 12 .mv [.s 0],
 p 13 .mv [.s 5],
 p 14 (.iaddr 1) [.s 12, .s 13],
 p 15 (.load none) [.s 14],
 p 16 .callv [.s 11, .s 15]])
 (.cond (.s 16) (.seq (.reg [
 p 17 .mv [.s 5],
 p 4 .mv [.s 17]])
 .ret)
 .skip))))
 (.reg [
 p 18 (.bin .add) [.s 8, .c (.int .i64 1)],
 p 8 .mv [.s 18]])))))))
 (.seq (.reg [
 p 4 .mv [.c (.int .i64 (-1))]])
 .ret)))
def F275 : AFun where
  n := 27
  res := [.tmp 6]
  code := (.seq (.reg [
 p 3 (.box 28) [.s 0],
 p 6 .mv [.c zz]])
 (.seq (.seq (.reg [
 p 10 .mv [.s 2],
 p 11 (.faddr 26) [.s 3],
 p 12 (.load none) [.s 11],
 p 13 (.faddr 0) [.s 3],
 p 14 (.load none) [.s 13],
 p 15 (.call 276) [.s 10, .s 12, .s 14],
 p 9 .mv [.s 15],
 p 16 (.extract 0) [.s 9],
 p 17 (.extract 1) [.s 9],
 p 7 .mv [.s 16],
 p 8 .mv [.s 17]])
 (.seq (.reg [
 p 18 .mv [.s 8]])
 (.cond (.s 18) (.seq (.reg [
 p 19 (.load (some 28)) [.s 3],
 p 20 .mv [.s 1],
 p 21 (.call 316) [.s 19, .s 20],
 p 22 .mv [.s 7],
 p 23 .least [.s 21, .s 22],
 p 6 .mv [.s 23]])
 .ret)
 .skip)))
 (.seq (.reg [
 p 24 (.load (some 28)) [.s 3],
 p 25 .mv [.s 1],
 p 26 (.call 316) [.s 24, .s 25],
 p 6 .mv [.s 26]])
 .ret)))
def F276 : AFun where
  n := 51
  res := [.tmp 6, .tmp 7]
  code := (.seq (.reg [
 p 6 .mv [.c zz],
 p 7 .mv [.c ff]])
 (.seq (.reg [
 p 11 .mkmap [],
 p 8 .mv [.s 11]])
 (.seq (.seq (.reg [
 p 12 .mv [.s 1],
 p 13 .len [.s 12],
 p 14 .mv [.c zz]])
 (.block 0 (.loop (.seq (.reg [
 p 15 (.bin .lss) [.s 14, .s 13]])
 (.seq (.cond (.s 15) .skip
 (.exit 0))
 (.seq (.block 1 (.seq (.reg [
 p 16 (.iaddr 1) [.s 12, .s 14],
 p 17 (.load none) [.s 16],
 p 10 .mv [.s 17]])
 (.seq (.seq (.reg [
 p 18 .mv [.s 0],
 p 19 .mv [.s 10],
 p 20 .mv [.s 2],
 p 21 (.call 271) [.s 18, .s 19, .s 20],
 p 22 (.un .not) [.s 21],
 p 23 .mv [.s 22],
  ⟨24, true, .mv, [.s 8], (some (23, false)), [], []⟩,
  ⟨25, true, .mv, [.s 10], (some (23, false)), [], []⟩,
  ⟨26, true, .build [zz] [(0, 1)], [.s 25], (some (23, false)), [], []⟩,
  ⟨27, true, .lookup true [some .i64] ff false, [.s 24, .s 26], (some (23, false)), [], []⟩,
 p 28 .pick [.s 23, .c (.bool true), .s 27]])
 (.cond (.s 28) (.exit 1)
 .skip))
 (.seq (.reg [
 p 29 .mv [.s 8],
 p 30 .mv [.s 10],
 p 31 (.build [zz] [(0, 1)]) [.s 30],
  ⟨500, false, .mapset true [some .i64], [.s 29, .s 31, .c (.bool true)], none, [], []⟩])
 (.seq (.reg [
 p 32 .mv [.s 7],
 p 33 (.un .not) [.s 32],
 p 34 .mv [.s 33],
  ⟨35, true, .mv, [.s 0], (some (34, false)), [], []⟩,
  ⟨36, true, .mv, [.s 10], (some (34, false)), [], []⟩,
  ⟨37, true, .iaddr 2, [.s 35, .s 36], (some (34, false)), [], []⟩,
  ⟨38, true, .faddr 0, [.s 37], (some (34, false)), [], []⟩,
  ⟨39, true, .load none, [.s 38], (some (34, false)), [], []⟩,
  ⟨40, true, .mv, [.s 6], (some (34, false)), [], []⟩,
  ⟨41, true, .bin .lss, [.s 39, .s 40], (some (34, false)), [], []⟩,
 p 42 .pick [.s 34, .c (.bool true), .s 41]])
 (.cond (.s 42) (.reg [
 p 43 .mv [.s 0],
 p 44 .mv [.s 10],
 p 45 (.iaddr 2) [.s 43, .s 44],
 p 46 (.faddr 0) [.s 45],
 p 47 (.load none) [.s 46],
 p 6 .mv [.s 47],
 p 7 .mv [.c (.bool true)]])
 .skip))))))
 (.reg [
 p 48 (.bin .add) [.s 14, .c (.int .i64 1)],
 p 14 .mv [.s 48]])))))))
 (.seq (.reg [
 p 49 .mv [.s 6],
 p 50 .mv [.s 7],
 p 6 .mv [.s 49],
 p 7 .mv [.s 50]])
 .ret))))
def F277 : AFun where
  n := 9
  res := [.tmp 4]
  code := (.seq (.reg [
 p 4 .mv [.c (.int .u64 0)]])
 (.seq (.reg [
 p 5 .mv [.s 0],
 p 6 .mv [.s 1],
 p 7 (.call 317) [.s 6],
 p 8 (.bin .or) [.s 5, .s 7],
 p 4 .mv [.s 8]])
 .ret))
def F278 : AFun where
  n := 23
  res := [.tmp 2, .tmp 3]
  code := (.seq (.reg [
 p 2 .mv [.c zz],
 p 3 .mv [.c ff]])
 (.seq (.seq (.reg [
 p 5 .mv [.s 0],
 p 6 (.bin .eql) [.s 5, .c (.int .u64 0)]])
 (.cond (.s 6) (.seq (.reg [
 p 2 .mv [.c zz],
 p 3 .mv [.c ff]])
 .ret)
 .skip))
 (.seq (.seq (.reg [
 p 4 .mv [.c (.int .i64 32)]])
 (.block 0 (.loop (.seq (.seq (.reg [
 p 7 .mv [.s 4],
 p 8 (.bin .gtr) [.s 7, .c zz]])
 (.cond (.s 8) .skip
 (.exit 0)))
 (.seq (.block 1 (.seq (.reg [
 p 11 .mv [.s 0],
 p 12 .mv [.s 4],
 p 13 (.bin .sub) [.c (.int .i64 64), .s 12],
 p 14 (.bin .shl) [.s 11, .s 13],
 p 15 (.bin .eql) [.s 14, .c (.int .u64 0)]])
 (.cond (.s 15) (.seq (.reg [
 p 16 .mv [.s 0],
 p 17 .mv [.s 4],
 p 18 (.bin .shr) [.s 16, .s 17],
 p 0 .mv [.s 18]])
 (.reg [
 p 19 .mv [.s 2],
 p 20 .mv [.s 4],
 p 21 (.bin .add) [.s 19, .s 20],
 p 2 .mv [.s 21]]))
 .skip)))
 (.reg [
 p 9 .mv [.s 4],
 p 10 (.bin .quo) [.s 9, .c (.int .i64 2)],
 p 4 .mv [.s 10]]))))))
 (.seq (.reg [
 p 22 .mv [.s 2],
 p 2 .mv [.s 22],
 p 3 .mv [.c (.bool true)]])
 .ret))))
def F279 : AFun where
  n := 18
  res := [.tmp 2]
  code := (.seq (.reg [
 p 2 .mv [.c zz]])
 (.seq (.reg [
 p 3 .mv [.c zz]])
 (.seq (.seq (.reg [
 p 6 .mv [.s 0],
 p 7 .len [.s 6],
 p 8 .mv [.c zz]])
 (.block 0 (.loop (.seq (.reg [
 p 9 (.bin .lss) [.s 8, .s 7]])
 (.seq (.cond (.s 9) .skip
 (.exit 0))
 (.seq (.block 1 (.seq (.reg [
 p 10 (.iaddr 1) [.s 6, .s 8],
 p 11 (.load none) [.s 10],
 p 5 .mv [.s 11]])
 (.seq (.reg [
 p 12 .mv [.s 5],
 p 13 .mv [.s 3],
 p 14 (.bin .neq) [.s 12, .s 13]])
 (.cond (.s 14) (.seq (.reg [
 p 15 .mv [.s 5],
 p 2 .mv [.s 15]])
 .ret)
 .skip))))
 (.reg [
 p 16 (.bin .add) [.s 8, .c (.int .i64 1)],
 p 8 .mv [.s 16]])))))))
 (.seq (.reg [
 p 17 .mv [.s 3],
 p 2 .mv [.s 17]])
 .ret))))
def F280 : AFun where
  n := 20
  res := [.tmp 4]
  code := (.seq (.reg [
 p 4 .mv [.c zz]])
 (.seq (.reg [
 p 7 .mv [.s 0],
 p 8 (.call 318) [.s 7],
 p 5 .mv [.s 8]])
 (.seq (.reg [
 p 9 .mv [.s 1],
 p 10 (.call 318) [.s 9],
 p 6 .mv [.s 10]])
 (.seq (.seq (.reg [
 p 11 .mv [.s 5]])
 (.cond (.s 11) (.seq (.seq (.reg [
 p 12 .mv [.s 6]])
 (.cond (.s 12) (.seq (.reg [
 p 4 .mv [.c zz]])
 .ret)
 .skip))
 (.seq (.reg [
 p 4 .mv [.c (.int .i64 (-1))]])
 .ret))
 .skip))
 (.seq (.seq (.reg [
 p 13 .mv [.s 6]])
 (.cond (.s 13) (.seq (.reg [
 p 4 .mv [.c (.int .i64 1)]])
 .ret)
 .skip))
 (.seq (.seq (.reg [
 p 14 .mv [.s 0],
 p 15 .mv [.s 1],
 p 16 (.bin .lss) [.s 14, .s 15]])
 (.cond (.s 16) (.seq (.reg [
 p 4 .mv [.c (.int .i64 (-1))]])
 .ret)
 .skip))
 (.seq (.seq (.reg [
 p 17 .mv [.s 0],
 p 18 .mv [.s 1],
 p 19 (.bin .gtr) [.s 17, .s 18]])
 (.cond (.s 19) (.seq (.reg [
 p 4 .mv [.c (.int .i64 1)]])
 .ret)
 .skip))
 (.seq (.reg [
 p 4 .mv [.c zz]])
 .ret))))))))
def F281 : AFun where
  n := 16
  res := [.cell 2 (some 28)]
  code := (.seq (.reg [
 p 1 (.box 28) [.s 0],
 p 2 (.zero [zz, zz, zz, zz, zz, zz, zz, zz, zz, zz, zz, zz, zz, et, ff, zz, zz, zz, zz, zz, zz, zz, zz, zz, et, ff, et, ff]) []])
 (.seq (.drw [
 p 3 (.faddr 4) [.s 1],
  ⟨4, true, .load (some 11), [.s 3], none, [1], []⟩,
  ⟨5, true, .call 284, [.s 4], none, [5, 8, 11], [5, 8, 11]⟩,
 p 6 (.faddr 15) [.s 1],
  ⟨7, true, .load (some 11), [.s 6], none, [1], []⟩,
  ⟨8, true, .call 284, [.s 7], none, [5, 8, 11], [5, 8, 11]⟩,
 p 9 (.faddr 26) [.s 1],
  ⟨10, true, .load none, [.s 9], none, [1], []⟩,
  ⟨11, true, .call 137, [.s 10], none, [5, 8, 11], [5, 8, 11]⟩,
 p 12 (.faddr 4) [.s 1],
  ⟨500, false, .store 11, [.s 12, .s 5], none, [1, 5], [1]⟩,
 p 13 (.faddr 15) [.s 1],
  ⟨501, false, .store 11, [.s 13, .s 8], none, [1, 8], [1]⟩,
 p 14 (.faddr 26) [.s 1],
  ⟨502, false, .store 1, [.s 14, .s 11], none, [1, 11], [1]⟩])
 (.seq (.reg [
 p 15 (.load (some 28)) [.s 1],
  ⟨503, false, .store 28, [.s 2, .s 15], none, [], []⟩])
 .ret)))
def F282 : AFun where
  n := 160
  res := [.cell 4 (some 11), .cell 5 (some 4), .tmp 6]
  code := (.seq (.reg [
 p 3 (.box 11) [.s 1],
 p 4 (.zero [zz, zz, zz, zz, zz, zz, zz, zz, zz, et, ff]) [],
 p 5 (.zero [zz, zz, zz, zz]) [],
 p 6 .mv [.c ff]])
 (.seq (.seq (.reg [
 p 11 (.faddr 10) [.s 3],
 p 12 (.load none) [.s 11],
 p 13 .mv [.s 12],
  ⟨14, true, .faddr 0, [.s 3], (some (13, false)), [], []⟩,
  ⟨15, true, .load none, [.s 14], (some (13, false)), [], []⟩,
  ⟨16, true, .bin .lss, [.s 15, .c zz], (some (13, false)), [], []⟩,
 p 17 .pick [.s 13, .c (.bool true), .s 16],
 p 18 .mv [.s 17],
  ⟨19, true, .faddr 0, [.s 3], (some (18, false)), [], []⟩,
  ⟨20, true, .load none, [.s 19], (some (18, false)), [], []⟩,
  ⟨21, true, .mv, [.s 0], (some (18, false)), [], []⟩,
  ⟨22, true, .len, [.s 21], (some (18, false)), [], []⟩,
  ⟨23, true, .bin .geq, [.s 20, .s 22], (some (18, false)), [], []⟩,
 p 24 .pick [.s 18, .c (.bool true), .s 23],
 p 25 .mv [.s 24],
  ⟨26, true, .mv, [.s 0], (some (25, false)), [], []⟩,
  ⟨27, true, .faddr 0, [.s 3], (some (25, false)), [], []⟩,
  ⟨28, true, .load none, [.s 27], (some (25, false)), [], []⟩,
  ⟨29, true, .iaddr 4, [.s 26, .s 28], (some (25, false)), [], []⟩,
  ⟨30, true, .load (some 4), [.s 29], (some (25, false)), [], []⟩,
  ⟨31, true, .call 191, [.s 30], (some (25, false)), [], []⟩,
  ⟨32, true, .un .not, [.s 31], (some (25, false)), [], []⟩,
 p 33 .pick [.s 25, .c (.bool true), .s 32]])
 (.cond (.s 33) (.seq (.reg [
 p 34 (.load (some 11)) [.s 3],
 p 35 (.call 319) [.s 34],
 p 36 (.build [zz, zz, zz, zz] []) [],
  ⟨500, false, .store 11, [.s 4, .s 35], none, [], []⟩,
  ⟨501, false, .store 4, [.s 5, .s 36], none, [], []⟩,
 p 6 .mv [.c ff]])
 .ret)
 .skip))
 (.seq (.reg [
 p 37 (.load (some 11)) [.s 3],
 p 38 (.call 319) [.s 37],
  ⟨502, false, .store 11, [.s 3, .s 38], none, [], []⟩])
 (.seq (.reg [
 p 39 .mv [.s 0],
 p 40 (.faddr 0) [.s 3],
 p 41 (.load none) [.s 40],
 p 42 (.iaddr 4) [.s 39, .s 41],
 p 43 (.load (some 4)) [.s 42],
 p 7 (.zero [zz, zz, zz, zz]) [],
  ⟨503, false, .store 4, [.s 7, .s 43], none, [], []⟩])
 (.seq (.reg [
 p 44 (.faddr 0) [.s 3],
 p 45 (.load none) [.s 44],
 p 46 (.bin .add) [.s 45, .c (.int .i64 1)],
 p 8 .mv [.s 46]])
 (.seq (.seq (.drw [
 p 47 (.faddr 1) [.s 7],
  ⟨48, true, .load none, [.s 47], none, [7], []⟩,
 p 49 (.faddr 1) [.s 3],
 p 50 (.iaddrA 8 1) [.s 49, .s 48],
 p 51 (.faddr 2) [.s 7],
  ⟨52, true, .load none, [.s 51], none, [7], []⟩,
 p 53 (.bin .rem) [.s 52, .c (.int .i64 8)],
 p 54 (.faddr 1) [.s 3],
 p 55 (.iaddrA 8 1) [.s 54, .s 53],
  ⟨56, true, .load none, [.s 55], none, [3], []⟩,
 p 9 .mv [.s 50],
 p 10 .mv [.s 56]])
 (.seq (.reg [
 p 57 (.faddr 0) [.s 7],
 p 58 (.load none) [.s 57]])
 (.block 0 (.seq (.reg [
 p 60 (.bin .eql) [.s 58, .c zz],
 p 59 .mv [.s 60]])
 (.cond (.s 59) (.reg [
 p 61 (.faddr 0) [.s 3],
 p 62 (.load none) [.s 61],
 p 8 .mv [.s 62],
 p 63 (.faddr 10) [.s 3],
  ⟨504, false, .store 1, [.s 63, .c (.bool true)], none, [], []⟩])
 (.seq (.reg [
 p 65 (.bin .eql) [.s 58, .c (.int .i64 1)],
 p 64 .mv [.s 65]])
 (.cond (.s 64) (.reg [
 p 66 .mv [.s 9],
 p 67 (.faddr 3) [.s 7],
 p 68 (.load none) [.s 67],
 p 69 .nilck [.s 66],
  ⟨505, false, .store 1, [.s 69, .s 68], none, [], []⟩])
 (.seq (.reg [
 p 71 (.bin .eql) [.s 58, .c (.int .i64 2)],
 p 70 .mv [.s 71]])
 (.cond (.s 70) (.reg [
 p 72 .mv [.s 9],
 p 73 .mv [.s 9],
 p 74 .nilck [.s 73],
 p 75 (.load none) [.s 74],
 p 76 (.conv .u64) [.s 75],
 p 77 .mv [.s 10],
 p 78 (.conv .u64) [.s 77],
 p 79 (.bin .add) [.s 76, .s 78],
 p 80 (.conv .i64) [.s 79],
 p 81 .nilck [.s 72],
  ⟨506, false, .store 1, [.s 81, .s 80], none, [], []⟩])
 (.seq (.reg [
 p 83 (.bin .eql) [.s 58, .c (.int .i64 3)],
 p 82 .mv [.s 83]])
 (.cond (.s 82) (.reg [
 p 84 .mv [.s 9],
 p 85 .mv [.s 9],
 p 86 .nilck [.s 85],
 p 87 (.load none) [.s 86],
 p 88 (.conv .u64) [.s 87],
 p 89 .mv [.s 10],
 p 90 (.conv .u64) [.s 89],
 p 91 (.bin .sub) [.s 88, .s 90],
 p 92 (.conv .i64) [.s 91],
 p 93 .nilck [.s 84],
  ⟨507, false, .store 1, [.s 93, .s 92], none, [], []⟩])
 (.seq (.reg [
 p 95 (.bin .eql) [.s 58, .c (.int .i64 4)],
 p 94 .mv [.s 95]])
 (.cond (.s 94) (.reg [
 p 96 .mv [.s 9],
 p 97 .mv [.s 9],
 p 98 .nilck [.s 97],
 p 99 (.load none) [.s 98],
 p 100 (.conv .u64) [.s 99],
 p 101 .mv [.s 10],
 p 102 (.conv .u64) [.s 101],
 p 103 (.bin .mul) [.s 100, .s 102],
 p 104 (.conv .i64) [.s 103],
 p 105 .nilck [.s 96],
  ⟨508, false, .store 1, [.s 105, .s 104], none, [], []⟩])
 (.seq (.reg [
 p 107 (.bin .eql) [.s 58, .c (.int .i64 5)],
 p 106 .mv [.s 107]])
 (.cond (.s 106) (.drw [
 p 108 .mv [.s 9],
 p 109 .mv [.s 9],
 p 110 .nilck [.s 109],
  ⟨111, true, .load none, [.s 110], none, [3], []⟩,
 p 112 (.faddr 3) [.s 7],
  ⟨113, true, .load none, [.s 112], none, [7], []⟩,
 p 114 (.call 320) [.s 111, .s 113],
 p 115 .nilck [.s 108],
  ⟨509, false, .store 1, [.s 115, .s 114], none, [3], [3]⟩])
 (.seq (.reg [
 p 117 (.bin .eql) [.s 58, .c (.int .i64 6)],
 p 116 .mv [.s 117]])
 (.cond (.s 116) (.drw [
 p 118 .mv [.s 9],
 p 119 .mv [.s 9],
 p 120 .nilck [.s 119],
  ⟨121, true, .load none, [.s 120], none, [3], []⟩,
 p 122 (.faddr 3) [.s 7],
  ⟨123, true, .load none, [.s 122], none, [7], []⟩,
 p 124 (.call 321) [.s 121, .s 123],
 p 125 .nilck [.s 118],
  ⟨510, false, .store 1, [.s 125, .s 124], none, [3], [3]⟩])
 (.seq (.reg [
 p 127 (.bin .eql) [.s 58, .c (.int .i64 7)],
 p 126 .mv [.s 127]])
 (.cond (.s 126) (.seq (.reg [
 p 128 .mv [.s 9],
 p 129 .nilck [.s 128],
 p 130 (.load none) [.s 129],
 p 131 (.bin .eql) [.s 130, .c zz]])
 (.cond (.s 131) (.reg [
 p 132 .mv [.s 8],
 p 133 (.faddr 3) [.s 7],
 p 134 (.load none) [.s 133],
 p 135 (.bin .add) [.s 132, .s 134],
 p 8 .mv [.s 135]])
 .skip))
 (.seq (.reg [
 p 137 (.bin .eql) [.s 58, .c (.int .i64 8)],
 p 136 .mv [.s 137]])
 (.cond (.s 136) (.reg [
 p 138 (.faddr 9) [.s 3],
 p 139 (.load none) [.s 138],
 p 140 (.faddr 0) [.s 3],
 p 141 (.load none) [.s 140],
 p 142 (.bin .add) [.s 141, .c (.int .i64 1)],
 p 143 (.faddr 0) [.s 3],
 p 144 (.load none) [.s 143],
 p 145 (.faddr 2) [.s 7],
 p 146 (.load none) [.s 145],
 p 147 (.bin .add) [.s 144, .s 146],
 p 148 (.faddr 3) [.s 7],
 p 149 (.load none) [.s 148],
 p 150 (.bin .sub) [.s 149, .c (.int .i64 1)],
 p 151 (.build [zz, zz, zz] [(0, 1), (1, 1), (2, 1)]) [.s 142, .s 147, .s 150],
 p 152 (.buildSl 3 [zz, zz, zz] 1 [0]) [.s 151],
 p 153 (.app 3 24 [zz, zz, zz]) [.s 139, .s 152],
 p 154 (.faddr 9) [.s 3],
  ⟨511, false, .store 1, [.s 154, .s 153], none, [], []⟩])
 .skip)))))))))))))))))))))
 (.seq (.reg [
 p 155 .mv [.s 8],
 p 156 (.faddr 0) [.s 3],
  ⟨512, false, .store 1, [.s 156, .s 155], none, [], []⟩])
 (.seq (.drw [
  ⟨157, true, .load (some 11), [.s 3], none, [3], []⟩,
  ⟨158, true, .call 322, [.s 157], none, [38, 152, 153], [38, 152, 153]⟩,
  ⟨159, true, .load (some 4), [.s 7], none, [7], []⟩,
  ⟨513, false, .store 11, [.s 4, .s 158], none, [4, 158], [4]⟩,
  ⟨514, false, .store 4, [.s 5, .s 159], none, [5], [5]⟩,
 p 6 .mv [.c (.bool true)]])
 .ret))))))))
def F283 : AFun where
  n := 19
  res := [.tmp 4]
  code := (.seq (.reg [
 p 2 (.box 6) [.s 0],
 p 3 (.box 28) [.s 1],
 p 4 .mv [.c et]])
 (.seq (.reg [
 p 6 .mkmap [],
 p 7 (.faddr 3) [.s 2],
 p 8 (.load none) [.s 7],
  ⟨500, false, .mapset false [some .i64], [.s 6, .c zz, .s 8], none, [], []⟩,
 p 9 (.faddr 4) [.s 2],
 p 10 (.load none) [.s 9],
  ⟨501, false, .mapset false [some .i64], [.s 6, .c (.int .i64 1), .s 10], none, [], []⟩,
 p 11 (.faddr 5) [.s 2],
 p 12 (.load none) [.s 11],
  ⟨502, false, .mapset false [some .i64], [.s 6, .c (.int .i64 2), .s 12], none, [], []⟩,
 p 13 .mv [.s 6],
 p 5 .mv [.s 13]])
 (.seq (.reg [
 p 14 .mv [.s 5],
 p 15 (.faddr 3) [.s 3],
 p 16 (.load none) [.s 15],
 p 17 (.lookup false [some .i64] et false) [.s 14, .s 16],
 p 18 (.call 135) [.s 17],
 p 4 .mv [.s 18]])
 .ret)))
def F284 : AFun where
  n := 8
  res := [.cell 2 (some 11)]
  code := (.seq (.reg [
 p 1 (.box 11) [.s 0],
 p 2 (.zero [zz, zz, zz, zz, zz, zz, zz, zz, zz, et, ff]) []])
 (.seq (.reg [
 p 3 (.faddr 9) [.s 1],
 p 4 (.load none) [.s 3],
 p 5 (.call 136) [.s 4],
 p 6 (.faddr 9) [.s 1],
  ⟨500, false, .store 1, [.s 6, .s 5], none, [], []⟩])
 (.seq (.reg [
 p 7 (.load (some 11)) [.s 1],
  ⟨501, false, .store 11, [.s 2, .s 7], none, [], []⟩])
 .ret)))
def F285 : AFun where
  n := 33
  res := [.tmp 6]
  code := (.seq (.reg [
 p 6 .mv [.c et]])
 (.seq (.reg [
 p 8 .mv [.s 0],
 p 9 .mv [.s 1],
 p 10 .mv [.s 2],
 p 11 .mv [.s 0],
 p 12 .len [.s 11],
 p 13 .slice3 [.s 8, .s 9, .s 10, .s 12]])
 (.seq (.seq (.reg [
 p 14 .mv [.s 1],
 p 15 .mv [.s 2],
 p 16 (.bin .eql) [.s 14, .s 15]])
 (.cond (.s 16) (.seq (.reg [
 p 17 .mv [.s 0],
 p 6 .mv [.s 17]])
 .ret)
 .skip))
 (.seq (.reg [
 p 18 .mv [.s 0],
 p 19 .len [.s 18],
 p 7 .mv [.s 19]])
 (.seq (.drw [
 p 20 .mv [.s 0],
 p 21 .mv [.s 1],
  ⟨22, true, .slice 1 false true, [.s 20, .s 21], none, [0, 26], []⟩,
 p 23 .mv [.s 0],
 p 24 .mv [.s 2],
  ⟨25, true, .slice 1 true false, [.s 23, .s 24], none, [0, 26], []⟩,
  ⟨26, true, .app 1 8 [zz], [.s 22, .s 25], none, [0, 26], [0, 26]⟩,
 p 0 .mv [.s 26]])
 (.seq (.reg [
 p 27 .mv [.s 0],
 p 28 .mv [.s 0],
 p 29 .len [.s 28],
 p 30 .mv [.s 7],
 p 31 (.slice 1 true true) [.s 27, .s 29, .s 30],
  ⟨500, false, .clear [zz], [.s 31], none, [], []⟩])
 (.seq (.reg [
 p 32 .mv [.s 0],
 p 6 .mv [.s 32]])
 .ret)))))))
def F286 : AFun where
  n := 13
  res := [.tmp 4]
  code := (.seq (.reg [
 p 4 .mv [.c ff]])
 (.seq (.reg [
 p 5 .mv [.s 1],
 p 6 (.bin .geq) [.s 5, .c zz],
 p 7 .mv [.s 6],
  ⟨8, true, .mv, [.s 1], (some (7, true)), [], []⟩,
  ⟨9, true, .mv, [.s 0], (some (7, true)), [], []⟩,
  ⟨10, true, .len, [.s 9], (some (7, true)), [], []⟩,
  ⟨11, true, .bin .lss, [.s 8, .s 10], (some (7, true)), [], []⟩,
 p 12 .pick [.s 7, .s 11, .c ff],
 p 4 .mv [.s 12]])
 .ret))
def F287 : AFun where
  n := 22
  res := [.cell 2 (some 28)]
  code := (.seq (.reg [
 p 1 (.box 28) [.s 0],
 p 2 (.zero [zz, zz, zz, zz, zz, zz, zz, zz, zz, zz, zz, zz, zz, et, ff, zz, zz, zz, zz, zz, zz, zz, zz, zz, et, ff, et, ff]) []])
 (.seq (.reg [
 p 4 (.load (some 28)) [.s 1],
 p 5 (.call 281) [.s 4],
 p 3 (.zero [zz, zz, zz, zz, zz, zz, zz, zz, zz, zz, zz, zz, zz, et, ff, zz, zz, zz, zz, zz, zz, zz, zz, zz, et, ff, et, ff]) [],
  ⟨500, false, .store 28, [.s 3, .s 5], none, [], []⟩])
 (.seq (.drw [
 p 6 (.faddr 4) [.s 1],
 p 7 (.faddr 1) [.s 6],
 p 8 (.iaddrA 8 1) [.s 7, .c zz],
  ⟨9, true, .load none, [.s 8], none, [1], []⟩,
 p 10 (.call 155) [.s 9],
 p 11 (.faddr 4) [.s 1],
 p 12 (.faddr 1) [.s 11],
 p 13 (.iaddrA 8 1) [.s 12, .c zz],
  ⟨14, true, .load none, [.s 13], none, [1], []⟩,
 p 15 (.call 155) [.s 14],
 p 16 (.faddr 3) [.s 3],
  ⟨501, false, .store 1, [.s 16, .c (.int .i64 2)], none, [3], [3]⟩,
 p 17 (.faddr 4) [.s 3],
  ⟨502, false, .store 11, [.s 17, .s 10], none, [3, 10], [3]⟩,
 p 18 (.faddr 15) [.s 3],
  ⟨503, false, .store 11, [.s 18, .s 15], none, [3, 15], [3]⟩,
 p 19 (.faddr 26) [.s 3],
  ⟨504, false, .store 1, [.s 19, .c et], none, [3], [3]⟩,
 p 20 (.faddr 27) [.s 3],
  ⟨505, false, .store 1, [.s 20, .c ff], none, [3], [3]⟩])
 (.seq (.reg [
 p 21 (.load (some 28)) [.s 3],
  ⟨506, false, .store 28, [.s 2, .s 21], none, [], []⟩])
 .ret))))
def F288 : AFun where
  n := 33
  res := [.cell 4 (some 28)]
  code := (.seq (.reg [
 p 2 (.box 6) [.s 0],
 p 3 (.box 28) [.s 1],
 p 4 (.zero [zz, zz, zz, zz, zz, zz, zz, zz, zz, zz, zz, zz, zz, et, ff, zz, zz, zz, zz, zz, zz, zz, zz, zz, et, ff, et, ff]) []])
 (.seq (.reg [
 p 6 (.load (some 28)) [.s 3],
 p 7 (.call 281) [.s 6],
 p 5 (.zero [zz, zz, zz, zz, zz, zz, zz, zz, zz, zz, zz, zz, zz, et, ff, zz, zz, zz, zz, zz, zz, zz, zz, zz, et, ff, et, ff]) [],
  ⟨500, false, .store 28, [.s 5, .s 7], none, [], []⟩])
 (.seq (.reg [
 p 8 (.faddr 26) [.s 5],
  ⟨501, false, .store 1, [.s 8, .c et], none, [], []⟩])
 (.seq (.seq (.reg [
 p 9 (.faddr 3) [.s 3],
 p 10 (.load none) [.s 9],
 p 11 (.bin .eql) [.s 10, .c zz],
 p 12 .mv [.s 11],
  ⟨13, true, .faddr 4, [.s 2], (some (12, true)), [], []⟩,
  ⟨14, true, .load none, [.s 13], (some (12, true)), [], []⟩,
  ⟨15, true, .len, [.s 14], (some (12, true)), [], []⟩,
  ⟨16, true, .bin .gtr, [.s 15, .c zz], (some (12, true)), [], []⟩,
 p 17 .pick [.s 12, .s 16, .c ff]])
 (.cond (.s 17) (.seq (.drw [
 p 18 (.faddr 2) [.s 3],
  ⟨19, true, .load none, [.s 18], none, [3], []⟩,
 p 20 (.call 155) [.s 19],
 p 21 (.faddr 2) [.s 3],
  ⟨22, true, .load none, [.s 21], none, [3], []⟩,
 p 23 (.call 155) [.s 22],
 p 24 (.faddr 3) [.s 5],
  ⟨502, false, .store 1, [.s 24, .c (.int .i64 1)], none, [5], [5]⟩,
 p 25 (.faddr 4) [.s 5],
  ⟨503, false, .store 11, [.s 25, .s 20], none, [5, 20], [5]⟩,
 p 26 (.faddr 15) [.s 5],
  ⟨504, false, .store 11, [.s 26, .s 23], none, [5, 23], [5]⟩])
 (.seq (.reg [
 p 27 (.load (some 28)) [.s 5],
  ⟨505, false, .store 28, [.s 4, .s 27], none, [], []⟩])
 .ret))
 .skip))
 (.seq (.reg [
 p 28 (.faddr 15) [.s 3],
 p 29 (.load (some 11)) [.s 28],
 p 30 (.call 284) [.s 29],
 p 31 (.faddr 4) [.s 5],
  ⟨506, false, .store 11, [.s 31, .s 30], none, [], []⟩])
 (.seq (.reg [
 p 32 (.load (some 28)) [.s 5],
  ⟨507, false, .store 28, [.s 4, .s 32], none, [], []⟩])
 .ret))))))
def F289 : AFun where
  n := 28
  res := []
  code := (.seq (.reg [
 p 4 .mv [.s 0],
 p 5 .len [.s 4],
 p 6 (.bin .sub) [.s 5, .c (.int .i64 1)],
 p 2 .mv [.c zz],
 p 3 .mv [.s 6]])
 (.block 0 (.loop (.seq (.seq (.reg [
 p 7 .mv [.s 2],
 p 8 .mv [.s 3],
 p 9 (.bin .lss) [.s 7, .s 8]])
 (.cond (.s 9) .skip
 (.exit 0)))
 (.seq (.block 1 (.drw [
 p 14 .mv [.s 0],
 p 15 .mv [.s 2],
 p 16 .mv [.s 0],
 p 17 .mv [.s 3],
 p 18 .mv [.s 0],
 p 19 .mv [.s 3],
 p 20 (.iaddr 28) [.s 18, .s 19],
 p 21 (.load (some 28)) [.s 20],
 p 22 .mv [.s 0],
 p 23 .mv [.s 2],
 p 24 (.iaddr 28) [.s 22, .s 23],
 p 25 (.load (some 28)) [.s 24],
 p 26 (.iaddr 28) [.s 14, .s 15],
  ⟨500, false, .store 28, [.s 26, .s 21], none, [], []⟩,
 p 27 (.iaddr 28) [.s 16, .s 17],
  ⟨501, false, .store 28, [.s 27, .s 25], none, [], []⟩]))
 (.reg [
 p 10 .mv [.s 2],
 p 11 (.bin .add) [.s 10, .c (.int .i64 1)],
 p 12 .mv [.s 3],
 p 13 (.bin .sub) [.s 12, .c (.int .i64 1)],
 p 2 .mv [.s 11],
 p 3 .mv [.s 13]]))))))
def F290 : AFun where
  n := 235
  res := [.tmp 2]
  code := (.seq (.reg [
 p 2 .mv [.c ff]])
 (.seq (.seq (.reg [
 p 15 .mv [.s 0],
 p 16 .len [.s 15],
 p 17 (.bin .lss) [.s 16, .c (.int .i64 1)],
 p 18 .mv [.s 17],
  ⟨19, true, .mv, [.s 0], (some (18, false)), [], []⟩,
  ⟨20, true, .len, [.s 19], (some (18, false)), [], []⟩,
  ⟨21, true, .bin .gtr, [.s 20, .c (.int .i64 24)], (some (18, false)), [], []⟩,
 p 22 .pick [.s 18, .c (.bool true), .s 21]])
 (.cond (.s 22) (.seq (.reg [
 p 2 .mv [.c ff]])
 .ret)
 .skip))
 (.seq (.seq (.reg [
 p 3 .mv [.c zz]])
 (.block 0 (.loop (.seq (.seq (.reg [
 p 23 .mv [.s 3],
 p 24 .mv [.s 0],
 p 25 .len [.s 24],
 p 26 (.bin .lss) [.s 23, .s 25]])
 (.cond (.s 26) .skip
 (.exit 0)))
 (.seq (.block 1 (.seq (.reg [
 p 29 .mv [.s 0],
 p 30 .mv [.s 3],
 p 31 (.iaddr 4) [.s 29, .s 30],
 p 32 (.load (some 4)) [.s 31],
 p 33 (.call 94) [.s 32],
 p 34 (.un .not) [.s 33],
 p 35 .mv [.s 34],
  ⟨36, true, .mv, [.s 0], (some (35, false)), [], []⟩,
  ⟨37, true, .mv, [.s 3], (some (35, false)), [], []⟩,
  ⟨38, true, .iaddr 4, [.s 36, .s 37], (some (35, false)), [], []⟩,
  ⟨39, true, .faddr 0, [.s 38], (some (35, false)), [], []⟩,
  ⟨40, true, .load none, [.s 39], (some (35, false)), [], []⟩,
  ⟨41, true, .bin .eql, [.s 40, .c zz], (some (35, false)), [], []⟩,
  ⟨42, true, .mv, [.s 3], (some (35, false)), [], []⟩,
  ⟨43, true, .mv, [.s 0], (some (35, false)), [], []⟩,
  ⟨44, true, .len, [.s 43], (some (35, false)), [], []⟩,
  ⟨45, true, .bin .sub, [.s 44, .c (.int .i64 1)], (some (35, false)), [], []⟩,
  ⟨46, true, .bin .eql, [.s 42, .s 45], (some (35, false)), [], []⟩,
  ⟨47, true, .eqv false [none] true, [.s 41, .s 46], (some (35, false)), [], []⟩,
 p 48 .pick [.s 35, .c (.bool true), .s 47]])
 (.cond (.s 48) (.seq (.reg [
 p 2 .mv [.c ff]])
 .ret)
 .skip)))
 (.reg [
 p 27 .mv [.s 3],
 p 28 (.bin .add) [.s 27, .c (.int .i64 1)],
 p 3 .mv [.s 28]]))))))
 (.seq (.reg [
 p 49 .mv [.s 0],
 p 50 (.call 323) [.s 49],
 p 4 .mv [.s 50]])
 (.seq (.seq (.reg [
 p 5 .mv [.c zz]])
 (.block 2 (.loop (.seq (.seq (.reg [
 p 51 .mv [.s 5],
 p 52 .mv [.s 4],
 p 53 .len [.s 52],
 p 54 (.bin .lss) [.s 51, .s 53]])
 (.cond (.s 54) .skip
 (.exit 2)))
 (.seq (.block 3 (.seq (.seq (.reg [
 p 57 .mv [.s 4],
 p 58 .mv [.s 5],
 p 59 (.iaddr 4) [.s 57, .s 58],
 p 60 (.faddr 1) [.s 59],
 p 61 (.load none) [.s 60],
 p 62 .mv [.s 0],
 p 63 .len [.s 62],
 p 64 (.bin .sub) [.s 63, .c (.int .i64 1)],
 p 65 (.bin .geq) [.s 61, .s 64]])
 (.cond (.s 65) (.seq (.reg [
 p 2 .mv [.c ff]])
 .ret)
 .skip))
 (.seq (.reg [
 p 6 .mv [.c zz]])
 (.block 4 (.loop (.seq (.seq (.reg [
 p 66 .mv [.s 6],
 p 67 .mv [.s 4],
 p 68 .len [.s 67],
 p 69 (.bin .lss) [.s 66, .s 68]])
 (.cond (.s 69) .skip
 (.exit 4)))
 (.seq (.block 5 (.seq (.seq (.reg [
 p 72 .mv [.s 5],
 p 73 .mv [.s 6],
 p 74 (.bin .eql) [.s 72, .s 73]])
 (.cond (.s 74) (.exit 5)
 .skip))
 (.seq (.drw [
 p 75 .mv [.s 4],
 p 76 .mv [.s 5],
  ⟨77, true, .iaddr 4, [.s 75, .s 76], none, [50], []⟩,
 p 78 (.faddr 1) [.s 77],
  ⟨79, true, .load none, [.s 78], none, [50], []⟩,
 p 80 .mv [.s 4],
 p 81 .mv [.s 6],
  ⟨82, true, .iaddr 4, [.s 80, .s 81], none, [50], []⟩,
 p 83 (.faddr 0) [.s 82],
  ⟨84, true, .load none, [.s 83], none, [50], []⟩,
 p 85 (.bin .lss) [.s 79, .s 84],
 p 86 .mv [.s 85],
  ⟨87, true, .mv, [.s 4], (some (86, false)), [], []⟩,
  ⟨88, true, .mv, [.s 6], (some (86, false)), [], []⟩,
  ⟨89, true, .iaddr 4, [.s 87, .s 88], (some (86, false)), [50], []⟩,
  ⟨90, true, .faddr 1, [.s 89], (some (86, false)), [], []⟩,
  ⟨91, true, .load none, [.s 90], (some (86, false)), [50], []⟩,
  ⟨92, true, .mv, [.s 4], (some (86, false)), [], []⟩,
  ⟨93, true, .mv, [.s 5], (some (86, false)), [], []⟩,
  ⟨94, true, .iaddr 4, [.s 92, .s 93], (some (86, false)), [50], []⟩,
  ⟨95, true, .faddr 0, [.s 94], (some (86, false)), [], []⟩,
  ⟨96, true, .load none, [.s 95], (some (86, false)), [50], []⟩,
  ⟨97, true, .bin .lss, [.s 91, .s 96], (some (86, false)), [], []⟩,
 p 98 .pick [.s 86, .c (.bool true), .s 97],
 p 7 .mv [.s 98]])
 (.seq (.drw [
 p 99 .mv [.s 4],
 p 100 .mv [.s 5],
  ⟨101, true, .iaddr 4, [.s 99, .s 100], none, [50], []⟩,
 p 102 (.faddr 0) [.s 101],
  ⟨103, true, .load none, [.s 102], none, [50], []⟩,
 p 104 .mv [.s 4],
 p 105 .mv [.s 6],
  ⟨106, true, .iaddr 4, [.s 104, .s 105], none, [50], []⟩,
 p 107 (.faddr 0) [.s 106],
  ⟨108, true, .load none, [.s 107], none, [50], []⟩,
 p 109 (.bin .leq) [.s 103, .s 108],
 p 110 .mv [.s 109],
  ⟨111, true, .mv, [.s 4], (some (110, true)), [], []⟩,
  ⟨112, true, .mv, [.s 6], (some (110, true)), [], []⟩,
  ⟨113, true, .iaddr 4, [.s 111, .s 112], (some (110, true)), [50], []⟩,
  ⟨114, true, .faddr 1, [.s 113], (some (110, true)), [], []⟩,
  ⟨115, true, .load none, [.s 114], (some (110, true)), [50], []⟩,
  ⟨116, true, .mv, [.s 4], (some (110, true)), [], []⟩,
  ⟨117, true, .mv, [.s 5], (some (110, true)), [], []⟩,
  ⟨118, true, .iaddr 4, [.s 116, .s 117], (some (110, true)), [50], []⟩,
  ⟨119, true, .faddr 1, [.s 118], (some (110, true)), [], []⟩,
  ⟨120, true, .load none, [.s 119], (some (110, true)), [50], []⟩,
  ⟨121, true, .bin .leq, [.s 115, .s 120], (some (110, true)), [], []⟩,
 p 122 .pick [.s 110, .s 121, .c ff],
 p 123 .mv [.s 122],
  ⟨124, true, .mv, [.s 4], (some (123, false)), [], []⟩,
  ⟨125, true, .mv, [.s 6], (some (123, false)), [], []⟩,
  ⟨126, true, .iaddr 4, [.s 124, .s 125], (some (123, false)), [50], []⟩,
  ⟨127, true, .faddr 0, [.s 126], (some (123, false)), [], []⟩,
  ⟨128, true, .load none, [.s 127], (some (123, false)), [50], []⟩,
  ⟨129, true, .mv, [.s 4], (some (123, false)), [], []⟩,
  ⟨130, true, .mv, [.s 5], (some (123, false)), [], []⟩,
  ⟨131, true, .iaddr 4, [.s 129, .s 130], (some (123, false)), [50], []⟩,
  ⟨132, true, .faddr 0, [.s 131], (some (123, false)), [], []⟩,
  ⟨133, true, .load none, [.s 132], (some (123, false)), [50], []⟩,
  ⟨134, true, .bin .leq, [.s 128, .s 133], (some (123, false)), [], []⟩,
  ⟨135, true, .mv, [.s 134], (some (123, false)), [], []⟩,
  ⟨136, true, .mv, [.s 4], (some (135, true)), [], []⟩,
  ⟨137, true, .mv, [.s 5], (some (135, true)), [], []⟩,
  ⟨138, true, .iaddr 4, [.s 136, .s 137], (some (135, true)), [50], []⟩,
  ⟨139, true, .faddr 1, [.s 138], (some (135, true)), [], []⟩,
  ⟨140, true, .load none, [.s 139], (some (135, true)), [50], []⟩,
  ⟨141, true, .mv, [.s 4], (some (135, true)), [], []⟩,
  ⟨142, true, .mv, [.s 6], (some (135, true)), [], []⟩,
  ⟨143, true, .iaddr 4, [.s 141, .s 142], (some (135, true)), [50], []⟩,
  ⟨144, true, .faddr 1, [.s 143], (some (135, true)), [], []⟩,
  ⟨145, true, .load none, [.s 144], (some (135, true)), [50], []⟩,
  ⟨146, true, .bin .leq, [.s 140, .s 145], (some (135, true)), [], []⟩,
  ⟨147, true, .pick, [.s 135, .s 146, .c ff], (some (123, false)), [], []⟩,
 p 148 .pick [.s 123, .c (.bool true), .s 147],
 p 8 .mv [.s 148]])
 (.seq (.drw [
 p 149 .mv [.s 7],
 p 150 (.un .not) [.s 149],
 p 151 .mv [.s 150],
  ⟨152, true, .mv, [.s 8], (some (151, true)), [], []⟩,
  ⟨153, true, .un .not, [.s 152], (some (151, true)), [], []⟩,
 p 154 .pick [.s 151, .s 153, .c ff],
 p 155 .mv [.s 154],
  ⟨156, true, .mv, [.s 4], (some (155, false)), [], []⟩,
  ⟨157, true, .mv, [.s 5], (some (155, false)), [], []⟩,
  ⟨158, true, .iaddr 4, [.s 156, .s 157], (some (155, false)), [50], []⟩,
  ⟨159, true, .load (some 4), [.s 158], (some (155, false)), [50], []⟩,
  ⟨160, true, .mv, [.s 4], (some (155, false)), [], []⟩,
  ⟨161, true, .mv, [.s 6], (some (155, false)), [], []⟩,
  ⟨162, true, .iaddr 4, [.s 160, .s 161], (some (155, false)), [50], []⟩,
  ⟨163, true, .faddr 2, [.s 162], (some (155, false)), [], []⟩,
  ⟨164, true, .load none, [.s 163], (some (155, false)), [50], []⟩,
  ⟨165, true, .call 324, [.s 159, .s 164], (some (155, false)), [], []⟩,
  ⟨166, true, .mv, [.s 165], (some (155, false)), [], []⟩,
  ⟨167, true, .mv, [.s 4], (some (166, true)), [], []⟩,
  ⟨168, true, .mv, [.s 6], (some (166, true)), [], []⟩,
  ⟨169, true, .iaddr 4, [.s 167, .s 168], (some (166, true)), [50], []⟩,
  ⟨170, true, .faddr 1, [.s 169], (some (166, true)), [], []⟩,
  ⟨171, true, .load none, [.s 170], (some (166, true)), [50], []⟩,
  ⟨172, true, .mv, [.s 4], (some (166, true)), [], []⟩,
  ⟨173, true, .mv, [.s 5], (some (166, true)), [], []⟩,
  ⟨174, true, .iaddr 4, [.s 172, .s 173], (some (166, true)), [50], []⟩,
  ⟨175, true, .faddr 1, [.s 174], (some (166, true)), [], []⟩,
  ⟨176, true, .load none, [.s 175], (some (166, true)), [50], []⟩,
  ⟨177, true, .bin .gtr, [.s 171, .s 176], (some (166, true)), [], []⟩,
  ⟨178, true, .pick, [.s 166, .s 177, .c ff], (some (155, false)), [], []⟩,
 p 179 .pick [.s 155, .c (.bool true), .s 178]])
 (.cond (.s 179) (.seq (.reg [
 p 2 .mv [.c ff]])
 .ret)
 .skip))))))
 (.reg [
 p 70 .mv [.s 6],
 p 71 (.bin .add) [.s 70, .c (.int .i64 1)],
 p 6 .mv [.s 71]]))))))))
 (.reg [
 p 55 .mv [.s 5],
 p 56 (.bin .add) [.s 55, .c (.int .i64 1)],
 p 5 .mv [.s 56]]))))))
 (.seq (.reg [
 p 181 .mv [.s 0],
 p 182 (.call 292) [.s 181],
 p 180 .mv [.s 182],
 p 183 (.extract 0) [.s 180],
 p 184 (.extract 1) [.s 180],
 p 9 .mv [.s 183],
 p 10 .mv [.s 184]])
 (.seq (.seq (.reg [
 p 185 .mv [.s 10],
 p 186 (.un .not) [.s 185]])
 (.cond (.s 186) (.seq (.reg [
 p 2 .mv [.c ff]])
 .ret)
 .skip))
 (.seq (.seq (.reg [
 p 11 .mv [.c zz]])
 (.block 6 (.loop (.seq (.seq (.reg [
 p 187 .mv [.s 11],
 p 188 .mv [.s 0],
 p 189 .len [.s 188],
 p 190 (.bin .lss) [.s 187, .s 189]])
 (.cond (.s 190) .skip
 (.exit 6)))
 (.seq (.block 7 (.seq (.reg [
 p 12 .mv [.c zz],
 p 13 .mv [.c zz]])
 (.seq (.seq (.reg [
 p 14 .mv [.c zz]])
 (.block 8 (.loop (.seq (.seq (.reg [
 p 193 .mv [.s 14],
 p 194 .mv [.s 4],
 p 195 .len [.s 194],
 p 196 (.bin .lss) [.s 193, .s 195]])
 (.cond (.s 196) .skip
 (.exit 8)))
 (.seq (.block 9 (.seq (.reg [
 p 199 .mv [.s 4],
 p 200 .mv [.s 14],
 p 201 (.iaddr 4) [.s 199, .s 200],
 p 202 (.load (some 4)) [.s 201],
 p 203 .mv [.s 11],
 p 204 (.call 324) [.s 202, .s 203]])
 (.cond (.s 204) (.seq (.reg [
 p 205 .mv [.s 13],
 p 206 (.bin .add) [.s 205, .c (.int .i64 1)],
 p 13 .mv [.s 206]])
 (.seq (.reg [
 p 207 .mv [.s 4],
 p 208 .mv [.s 14],
 p 209 (.iaddr 4) [.s 207, .s 208],
 p 210 (.faddr 3) [.s 209],
 p 211 (.load none) [.s 210]])
 (.cond (.s 211) (.reg [
 p 212 .mv [.s 12],
 p 213 (.bin .add) [.s 212, .c (.int .i64 1)],
 p 12 .mv [.s 213]])
 .skip)))
 .skip)))
 (.reg [
 p 197 .mv [.s 14],
 p 198 (.bin .add) [.s 197, .c (.int .i64 1)],
 p 14 .mv [.s 198]]))))))
 (.seq (.reg [
 p 214 .mv [.s 12],
 p 215 (.bin .gtr) [.s 214, .c (.int .i64 2)],
 p 216 .mv [.s 215],
  ⟨217, true, .mv, [.s 0], (some (216, false)), [], []⟩,
  ⟨218, true, .mv, [.s 11], (some (216, false)), [], []⟩,
  ⟨219, true, .iaddr 4, [.s 217, .s 218], (some (216, false)), [], []⟩,
  ⟨220, true, .faddr 0, [.s 219], (some (216, false)), [], []⟩,
  ⟨221, true, .load none, [.s 220], (some (216, false)), [], []⟩,
  ⟨222, true, .bin .eql, [.s 221, .c (.int .i64 11)], (some (216, false)), [], []⟩,
  ⟨223, true, .mv, [.s 222], (some (216, false)), [], []⟩,
  ⟨224, true, .mv, [.s 13], (some (223, true)), [], []⟩,
  ⟨225, true, .bin .gtr, [.s 224, .c zz], (some (223, true)), [], []⟩,
  ⟨226, true, .mv, [.s 225], (some (223, true)), [], []⟩,
  ⟨227, true, .mv, [.s 0], (some (226, false)), [], []⟩,
  ⟨228, true, .mv, [.s 9], (some (226, false)), [], []⟩,
  ⟨229, true, .mv, [.s 11], (some (226, false)), [], []⟩,
  ⟨230, true, .call 325, [.s 227, .s 228, .s 229], (some (226, false)), [], []⟩,
  ⟨231, true, .bin .gtr, [.s 230, .c zz], (some (226, false)), [], []⟩,
  ⟨232, true, .pick, [.s 226, .c (.bool true), .s 231], (some (223, true)), [], []⟩,
  ⟨233, true, .pick, [.s 223, .s 232, .c ff], (some (216, false)), [], []⟩,
 p 234 .pick [.s 216, .c (.bool true), .s 233]])
 (.cond (.s 234) (.seq (.reg [
 p 2 .mv [.c ff]])
 .ret)
 .skip)))))
 (.reg [
 p 191 .mv [.s 11],
 p 192 (.bin .add) [.s 191, .c (.int .i64 1)],
 p 11 .mv [.s 192]]))))))
 (.seq (.reg [
 p 2 .mv [.c (.bool true)]])
 .ret)))))))))
def F291 : AFun where
  n := 58
  res := [.tmp 2]
  code := (.seq (.reg [
 p 2 .mv [.c et]])
 (.seq (.reg [
 p 7 .mv [.s 0],
 p 8 .len [.s 7],
 p 9 (.mkslice [zz] 8) [.s 8, .s 8],
 p 3 .mv [.s 9]])
 (.seq (.reg [
 p 10 .mv [.s 0],
 p 11 (.call 323) [.s 10],
 p 4 .mv [.s 11]])
 (.seq (.seq (.reg [
 p 5 .mv [.c zz]])
 (.block 0 (.loop (.seq (.seq (.reg [
 p 12 .mv [.s 5],
 p 13 .mv [.s 0],
 p 14 .len [.s 13],
 p 15 (.bin .lss) [.s 12, .s 14]])
 (.cond (.s 15) .skip
 (.exit 0)))
 (.seq (.block 1 (.seq (.reg [
 p 18 .mv [.s 3],
 p 19 .mv [.s 5],
 p 20 (.iaddr 1) [.s 18, .s 19],
  ⟨500, false, .store 1, [.s 20, .c (.int .i64 1)], none, [], []⟩])
 (.seq (.reg [
 p 6 .mv [.c zz]])
 (.block 2 (.loop (.seq (.seq (.reg [
 p 21 .mv [.s 6],
 p 22 .mv [.s 4],
 p 23 .len [.s 22],
 p 24 (.bin .lss) [.s 21, .s 23]])
 (.cond (.s 24) .skip
 (.exit 2)))
 (.seq (.block 3 (.seq (.reg [
 p 27 .mv [.s 4],
 p 28 .mv [.s 6],
 p 29 (.iaddr 4) [.s 27, .s 28],
 p 30 (.faddr 3) [.s 29],
 p 31 (.load none) [.s 30],
 p 32 .mv [.s 31],
  ⟨33, true, .mv, [.s 4], (some (32, true)), [], []⟩,
  ⟨34, true, .mv, [.s 6], (some (32, true)), [], []⟩,
  ⟨35, true, .iaddr 4, [.s 33, .s 34], (some (32, true)), [], []⟩,
  ⟨36, true, .load (some 4), [.s 35], (some (32, true)), [], []⟩,
  ⟨37, true, .mv, [.s 5], (some (32, true)), [], []⟩,
  ⟨38, true, .call 324, [.s 36, .s 37], (some (32, true)), [], []⟩,
 p 39 .pick [.s 32, .s 38, .c ff]])
 (.cond (.s 39) (.drw [
 p 40 .mv [.s 3],
 p 41 .mv [.s 5],
 p 42 .mv [.s 3],
 p 43 .mv [.s 5],
  ⟨44, true, .iaddr 1, [.s 42, .s 43], none, [9], []⟩,
  ⟨45, true, .load none, [.s 44], none, [9], []⟩,
 p 46 .mv [.s 0],
 p 47 .mv [.s 4],
 p 48 .mv [.s 6],
  ⟨49, true, .iaddr 4, [.s 47, .s 48], none, [11], []⟩,
 p 50 (.faddr 2) [.s 49],
  ⟨51, true, .load none, [.s 50], none, [11], []⟩,
 p 52 (.iaddr 4) [.s 46, .s 51],
 p 53 (.faddr 3) [.s 52],
 p 54 (.load none) [.s 53],
 p 55 (.bin .mul) [.s 45, .s 54],
  ⟨56, true, .iaddr 1, [.s 40, .s 41], none, [9], []⟩,
  ⟨501, false, .store 1, [.s 56, .s 55], none, [9], [9]⟩])
 .skip)))
 (.reg [
 p 25 .mv [.s 6],
 p 26 (.bin .add) [.s 25, .c (.int .i64 1)],
 p 6 .mv [.s 26]]))))))))
 (.reg [
 p 16 .mv [.s 5],
 p 17 (.bin .add) [.s 16, .c (.int .i64 1)],
 p 5 .mv [.s 17]]))))))
 (.seq (.reg [
 p 57 .mv [.s 3],
 p 2 .mv [.s 57]])
 .ret)))))
def F292 : AFun where
  n := 117
  res := [.tmp 2, .tmp 3]
  code := (.seq (.reg [
 p 2 .mv [.c et],
 p 3 .mv [.c ff]])
 (.seq (.reg [
 p 11 .mv [.s 0],
 p 12 .len [.s 11],
 p 13 (.mkslice [zz] 8) [.s 12, .s 12],
 p 4 .mv [.s 13]])
 (.seq (.reg [
 p 5 .mv [.c et]])
 (.seq (.reg [
 p 14 .mv [.s 0],
 p 15 (.call 323) [.s 14],
 p 6 .mv [.s 15]])
 (.seq (.seq (.reg [
 p 7 .mv [.c zz]])
 (.block 0 (.loop (.seq (.seq (.reg [
 p 16 .mv [.s 7],
 p 17 .mv [.s 0],
 p 18 .len [.s 17],
 p 19 (.bin .lss) [.s 16, .s 18]])
 (.cond (.s 19) .skip
 (.exit 0)))
 (.seq (.block 1 (.seq (.reg [
 p 22 .mv [.s 0],
 p 23 .mv [.s 7],
 p 24 (.iaddr 4) [.s 22, .s 23],
 p 25 (.faddr 0) [.s 24],
 p 26 (.load none) [.s 25]])
 (.block 2 (.seq (.reg [
 p 28 (.bin .eql) [.s 26, .c (.int .i64 9)],
 p 27 .mv [.s 28]])
 (.cond (.s 27) (.seq (.seq (.reg [
 p 8 .mv [.c zz]])
 (.block 3 (.loop (.seq (.seq (.reg [
 p 29 .mv [.s 8],
 p 30 .mv [.s 5],
 p 31 .len [.s 30],
 p 32 (.bin .lss) [.s 29, .s 31]])
 (.cond (.s 32) .skip
 (.exit 3)))
 (.seq (.block 4 (.seq (.drw [
 p 35 .mv [.s 0],
 p 36 .mv [.s 5],
 p 37 .mv [.s 8],
  ⟨38, true, .iaddr 1, [.s 36, .s 37], none, [51, 52], []⟩,
  ⟨39, true, .load none, [.s 38], none, [51, 52], []⟩,
 p 40 (.iaddr 4) [.s 35, .s 39],
 p 41 (.faddr 1) [.s 40],
 p 42 (.load none) [.s 41],
 p 43 .mv [.s 0],
 p 44 .mv [.s 7],
 p 45 (.iaddr 4) [.s 43, .s 44],
 p 46 (.faddr 1) [.s 45],
 p 47 (.load none) [.s 46],
 p 48 (.bin .eql) [.s 42, .s 47]])
 (.cond (.s 48) (.seq (.reg [
 p 2 .mv [.c et],
 p 3 .mv [.c ff]])
 .ret)
 .skip)))
 (.reg [
 p 33 .mv [.s 8],
 p 34 (.bin .add) [.s 33, .c (.int .i64 1)],
 p 8 .mv [.s 34]]))))))
 (.seq (.reg [
 p 49 .mv [.s 5],
 p 50 .mv [.s 7],
 p 51 (.buildSl 1 [zz] 1 [0]) [.s 50],
 p 52 (.app 1 8 [zz]) [.s 49, .s 51],
 p 5 .mv [.s 52]])
 (.seq (.reg [
 p 53 .mv [.s 5],
 p 54 .len [.s 53],
 p 55 (.bin .gtr) [.s 54, .c (.int .i64 2)]])
 (.cond (.s 55) (.seq (.reg [
 p 2 .mv [.c et],
 p 3 .mv [.c ff]])
 .ret)
 .skip))))
 (.seq (.reg [
 p 57 (.bin .eql) [.s 26, .c (.int .i64 10)],
 p 56 .mv [.s 57]])
 (.cond (.s 56) (.seq (.seq (.drw [
 p 58 .mv [.s 5],
 p 59 .len [.s 58],
 p 60 (.bin .eql) [.s 59, .c zz],
 p 61 .mv [.s 60],
  ⟨62, true, .mv, [.s 0], (some (61, false)), [], []⟩,
  ⟨63, true, .mv, [.s 5], (some (61, false)), [], []⟩,
  ⟨64, true, .mv, [.s 5], (some (61, false)), [], []⟩,
  ⟨65, true, .len, [.s 64], (some (61, false)), [], []⟩,
  ⟨66, true, .bin .sub, [.s 65, .c (.int .i64 1)], (some (61, false)), [], []⟩,
  ⟨67, true, .iaddr 1, [.s 63, .s 66], (some (61, false)), [51, 52], []⟩,
  ⟨68, true, .load none, [.s 67], (some (61, false)), [51, 52], []⟩,
  ⟨69, true, .iaddr 4, [.s 62, .s 68], (some (61, false)), [], []⟩,
  ⟨70, true, .faddr 1, [.s 69], (some (61, false)), [], []⟩,
  ⟨71, true, .load none, [.s 70], (some (61, false)), [], []⟩,
  ⟨72, true, .mv, [.s 0], (some (61, false)), [], []⟩,
  ⟨73, true, .mv, [.s 7], (some (61, false)), [], []⟩,
  ⟨74, true, .iaddr 4, [.s 72, .s 73], (some (61, false)), [], []⟩,
  ⟨75, true, .faddr 1, [.s 74], (some (61, false)), [], []⟩,
  ⟨76, true, .load none, [.s 75], (some (61, false)), [], []⟩,
  ⟨77, true, .bin .neq, [.s 71, .s 76], (some (61, false)), [], []⟩,
 p 78 .pick [.s 61, .c (.bool true), .s 77]])
 (.cond (.s 78) (.seq (.reg [
 p 2 .mv [.c et],
 p 3 .mv [.c ff]])
 .ret)
 .skip))
 (.seq (.reg [
 p 79 .mv [.s 5],
 p 80 .mv [.s 5],
 p 81 .len [.s 80],
 p 82 (.bin .sub) [.s 81, .c (.int .i64 1)],
 p 83 (.iaddr 1) [.s 79, .s 82],
 p 84 (.load none) [.s 83],
 p 9 .mv [.s 84]])
 (.seq (.reg [
 p 85 .mv [.s 5],
 p 86 .mv [.s 5],
 p 87 .len [.s 86],
 p 88 (.bin .sub) [.s 87, .c (.int .i64 1)],
 p 89 (.slice 1 false true) [.s 85, .s 88],
 p 5 .mv [.s 89]])
 (.seq (.seq (.reg [
 p 10 .mv [.c zz]])
 (.block 5 (.loop (.seq (.seq (.reg [
 p 90 .mv [.s 10],
 p 91 .mv [.s 6],
 p 92 .len [.s 91],
 p 93 (.bin .lss) [.s 90, .s 92]])
 (.cond (.s 93) .skip
 (.exit 5)))
 (.seq (.block 6 (.seq (.drw [
 p 96 .mv [.s 6],
 p 97 .mv [.s 10],
  ⟨98, true, .iaddr 4, [.s 96, .s 97], none, [15], []⟩,
  ⟨99, true, .load (some 4), [.s 98], none, [15], []⟩,
 p 100 .mv [.s 9],
 p 101 (.call 324) [.s 99, .s 100],
 p 102 .mv [.s 6],
 p 103 .mv [.s 10],
  ⟨104, true, .iaddr 4, [.s 102, .s 103], none, [15], []⟩,
  ⟨105, true, .load (some 4), [.s 104], none, [15], []⟩,
 p 106 .mv [.s 7],
 p 107 (.call 324) [.s 105, .s 106],
 p 108 (.eqv false [none] true) [.s 101, .s 107]])
 (.cond (.s 108) (.seq (.reg [
 p 2 .mv [.c et],
 p 3 .mv [.c ff]])
 .ret)
 .skip)))
 (.reg [
 p 94 .mv [.s 10],
 p 95 (.bin .add) [.s 94, .c (.int .i64 1)],
 p 10 .mv [.s 95]]))))))
 (.reg [
 p 109 .mv [.s 4],
 p 110 .mv [.s 9],
 p 111 .mv [.s 7],
 p 112 (.iaddr 1) [.s 109, .s 110],
  ⟨500, false, .store 1, [.s 112, .s 111], none, [], []⟩])))))
 .skip)))))))
 (.reg [
 p 20 .mv [.s 7],
 p 21 (.bin .add) [.s 20, .c (.int .i64 1)],
 p 7 .mv [.s 21]]))))))
 (.seq (.seq (.reg [
 p 113 .mv [.s 5],
 p 114 .len [.s 113],
 p 115 (.bin .gtr) [.s 114, .c zz]])
 (.cond (.s 115) (.seq (.reg [
 p 2 .mv [.c et],
 p 3 .mv [.c ff]])
 .ret)
 .skip))
 (.seq (.reg [
 p 116 .mv [.s 4],
 p 2 .mv [.s 116],
 p 3 .mv [.c (.bool true)]])
 .ret)))))))
def F293 : AFun where
  n := 50
  res := [.cell 4 (some 4)]
  code := (.seq (.reg [
 p 4 (.zero [et, zz, zz, et]) []])
 (.seq (.reg [
 p 10 .mv [.s 0],
 p 11 .mv [.s 1],
 p 12 (.call 236) [.s 10, .s 11],
 p 13 (.build [et, zz, zz, et] [(2, 1)]) [.s 12],
 p 5 (.zero [et, zz, zz, et]) [],
  ⟨500, false, .store 4, [.s 5, .s 13], none, [], []⟩])
 (.seq (.seq (.reg [
 p 6 .mv [.c zz]])
 (.block 0 (.loop (.seq (.seq (.reg [
 p 14 .mv [.s 6],
 p 15 .mv [.s 1],
 p 16 (.bin .leq) [.s 14, .s 15]])
 (.cond (.s 16) .skip
 (.exit 0)))
 (.seq (.block 1 (.seq (.reg [
 p 20 .mv [.s 0],
 p 21 .mv [.s 6],
 p 22 (.iaddr 6) [.s 20, .s 21],
 p 23 (.load (some 6)) [.s 22],
 p 24 (.call 235) [.s 23],
 p 19 .mv [.s 24],
 p 25 (.extract 0) [.s 19],
 p 26 (.extract 1) [.s 19],
 p 27 (.extract 2) [.s 19],
 p 7 .mv [.s 25],
 p 8 .mv [.s 26],
 p 9 .mv [.s 27]])
 (.drw [
 p 28 (.faddr 0) [.s 5],
  ⟨29, true, .load none, [.s 28], none, [5], []⟩,
 p 30 .mv [.s 7],
 p 31 (.buildSl 1 [zz] 1 [0]) [.s 30],
  ⟨32, true, .app 1 8 [zz], [.s 29, .s 31], none, [31, 32], [31, 32]⟩,
 p 33 (.faddr 1) [.s 5],
  ⟨34, true, .load none, [.s 33], none, [5], []⟩,
 p 35 .mv [.s 8],
 p 36 .most [.s 34, .s 35],
 p 37 (.faddr 3) [.s 5],
  ⟨38, true, .load none, [.s 37], none, [5], []⟩,
 p 39 .mv [.s 0],
 p 40 .mv [.s 6],
 p 41 (.iaddr 6) [.s 39, .s 40],
 p 42 (.faddr 1) [.s 41],
 p 43 (.load none) [.s 42],
 p 44 (.buildSl 1 [zz] 1 [0]) [.s 43],
  ⟨45, true, .app 1 8 [zz], [.s 38, .s 44], none, [44, 45], [44, 45]⟩,
 p 46 (.faddr 0) [.s 5],
  ⟨501, false, .store 1, [.s 46, .s 32], none, [5, 31, 32], [5]⟩,
 p 47 (.faddr 1) [.s 5],
  ⟨502, false, .store 1, [.s 47, .s 36], none, [5], [5]⟩,
 p 48 (.faddr 3) [.s 5],
  ⟨503, false, .store 1, [.s 48, .s 45], none, [5, 44, 45], [5]⟩])))
 (.reg [
 p 17 .mv [.s 6],
 p 18 (.bin .add) [.s 17, .c (.int .i64 1)],
 p 6 .mv [.s 18]]))))))
 (.seq (.reg [
 p 49 (.load (some 4)) [.s 5],
  ⟨504, false, .store 4, [.s 4, .s 49], none, [], []⟩])
 .ret))))
def F294 : AFun where
  n := 94
  res := [.tmp 6, .tmp 7]
  code := (.seq (.reg [
 p 3 (.box 4) [.s 0],
 p 6 .mv [.c zz],
 p 7 .mv [.c ff]])
 (.seq (.reg [
 p 18 (.faddr 0) [.s 3],
 p 19 (.load none) [.s 18],
 p 20 .len [.s 19],
 p 21 (.bin .sub) [.s 20, .c (.int .i64 1)],
 p 8 .mv [.s 21]])
 (.seq (.drw [
 p 23 (.faddr 0) [.s 3],
  ⟨24, true, .load none, [.s 23], none, [3], []⟩,
 p 25 .mv [.s 8],
 p 26 (.iaddr 1) [.s 24, .s 25],
 p 27 (.load none) [.s 26],
 p 28 (.faddr 2) [.s 3],
  ⟨29, true, .load none, [.s 28], none, [3], []⟩,
 p 30 (.call 326) [.s 27, .s 29],
 p 22 .mv [.s 30],
 p 31 (.extract 0) [.s 22],
 p 32 (.extract 1) [.s 22],
 p 9 .mv [.s 31],
 p 10 .mv [.s 32]])
 (.seq (.reg [
 p 34 .mv [.s 2],
 p 35 .mv [.s 1],
 p 36 (.call 327) [.s 34, .s 35],
 p 33 .mv [.s 36],
 p 37 (.extract 0) [.s 33],
 p 38 (.extract 1) [.s 33],
 p 11 .mv [.s 37],
 p 12 .mv [.s 38]])
 (.seq (.reg [
 p 40 .mv [.s 11],
 p 41 (.faddr 1) [.s 3],
 p 42 (.load none) [.s 41],
 p 43 (.call 328) [.s 40, .s 42],
 p 39 .mv [.s 43],
 p 44 (.extract 0) [.s 39],
 p 45 (.extract 1) [.s 39],
 p 13 .mv [.s 44],
 p 14 .mv [.s 45]])
 (.seq (.reg [
 p 46 .mv [.s 10],
 p 47 .mv [.s 46],
  ⟨48, true, .mv, [.s 14], (some (47, true)), [], []⟩,
 p 49 .pick [.s 47, .s 48, .c ff],
 p 10 .mv [.s 49]])
 (.seq (.seq (.reg [
 p 50 .mv [.s 10]])
 (.cond (.s 50) (.reg [
 p 52 .mv [.s 9],
 p 53 .mv [.s 13],
 p 54 (.call 326) [.s 52, .s 53],
 p 51 .mv [.s 54],
 p 55 (.extract 0) [.s 51],
 p 56 (.extract 1) [.s 51],
 p 9 .mv [.s 55],
 p 10 .mv [.s 56]])
 .skip))
 (.seq (.seq (.reg [
 p 15 .mv [.c zz]])
 (.block 0 (.loop (.seq (.seq (.reg [
 p 57 .mv [.s 15],
 p 58 .mv [.s 8],
 p 59 (.bin .lss) [.s 57, .s 58],
 p 60 .mv [.s 59],
  ⟨61, true, .mv, [.s 10], (some (60, true)), [], []⟩,
 p 62 .pick [.s 60, .s 61, .c ff]])
 (.cond (.s 62) .skip
 (.exit 0)))
 (.seq (.block 1 (.seq (.reg [
 p 66 .mv [.s 2],
 p 67 (.faddr 3) [.s 3],
 p 68 (.load none) [.s 67],
 p 69 .mv [.s 15],
 p 70 (.iaddr 1) [.s 68, .s 69],
 p 71 (.load none) [.s 70],
 p 72 (.call 327) [.s 66, .s 71],
 p 65 .mv [.s 72],
 p 73 (.extract 0) [.s 65],
 p 74 (.extract 1) [.s 65],
 p 16 .mv [.s 73],
 p 17 .mv [.s 74]])
 (.seq (.reg [
 p 76 .mv [.s 16],
 p 77 (.faddr 0) [.s 3],
 p 78 (.load none) [.s 77],
 p 79 .mv [.s 15],
 p 80 (.iaddr 1) [.s 78, .s 79],
 p 81 (.load none) [.s 80],
 p 82 (.call 328) [.s 76, .s 81],
 p 75 .mv [.s 82],
 p 83 (.extract 0) [.s 75],
 p 84 (.extract 1) [.s 75],
 p 13 .mv [.s 83],
 p 10 .mv [.s 84]])
 (.seq (.reg [
 p 85 .mv [.s 10]])
 (.cond (.s 85) (.reg [
 p 87 .mv [.s 9],
 p 88 .mv [.s 13],
 p 89 (.call 326) [.s 87, .s 88],
 p 86 .mv [.s 89],
 p 90 (.extract 0) [.s 86],
 p 91 (.extract 1) [.s 86],
 p 9 .mv [.s 90],
 p 10 .mv [.s 91]])
 .skip)))))
 (.reg [
 p 63 .mv [.s 15],
 p 64 (.bin .add) [.s 63, .c (.int .i64 1)],
 p 15 .mv [.s 64]]))))))
 (.seq (.reg [
 p 92 .mv [.s 9],
 p 93 .mv [.s 10],
 p 6 .mv [.s 92],
 p 7 .mv [.s 93]])
 .ret)))))))))
def F315 : AFun where
  n := 27
  res := [.tmp 4]
  code := (.seq (.reg [
 p 4 .mv [.c et]])
 (.seq (.seq (.reg [
 p 5 .mv [.s 1],
 p 6 (.bin .lss) [.s 5, .c zz]])
 (.cond (.s 6) (.reg [
 p 7 .bad [],
  ⟨500, false, .bad, [], none, [], []⟩])
 .skip))
 (.seq (.seq (.reg [
 p 8 .mv [.s 1],
 p 9 .mv [.s 0],
 p 10 .capE [.s 9],
 p 11 .mv [.s 0],
 p 12 .len [.s 11],
 p 13 (.bin .sub) [.s 10, .s 12],
 p 14 (.bin .sub) [.s 8, .s 13],
 p 1 .mv [.s 14]])
 (.seq (.reg [
 p 15 .mv [.s 1],
 p 16 (.bin .gtr) [.s 15, .c zz]])
 (.cond (.s 16) (.reg [
 p 17 .mv [.s 0],
 p 18 .mv [.s 0],
 p 19 .capE [.s 18],
 p 20 (.slice 1 false true) [.s 17, .s 19],
 p 21 .mv [.s 1],
 p 22 (.appZ 8 [zz]) [.s 20, .s 21],
 p 23 .mv [.s 0],
 p 24 .len [.s 23],
 p 25 (.slice 1 false true) [.s 22, .s 24],
 p 0 .mv [.s 25]])
 .skip)))
 (.seq (.reg [
 p 26 .mv [.s 0],
 p 4 .mv [.s 26]])
 .ret))))
def F316 : AFun where
  n := 24
  res := [.tmp 4]
  code := (.seq (.reg [
 p 2 (.box 28) [.s 0],
 p 4 .mv [.c zz]])
 (.seq (.block 0 (.seq (.reg [
 p 6 (.faddr 3) [.s 2],
 p 7 (.load none) [.s 6],
 p 8 (.bin .eql) [.s 7, .c (.int .i64 2)],
 p 5 .mv [.s 8]])
 (.cond (.s 5) (.seq (.reg [
 p 9 .mv [.s 1],
 p 10 .mv [.s 1],
 p 11 (.bin .add) [.s 9, .s 10],
 p 12 (.faddr 0) [.s 2],
 p 13 (.load none) [.s 12],
 p 14 (.bin .add) [.s 11, .s 13],
 p 4 .mv [.s 14]])
 .ret)
 (.seq (.reg [
 p 16 (.faddr 27) [.s 2],
 p 17 (.load none) [.s 16],
 p 15 .mv [.s 17]])
 (.cond (.s 15) (.seq (.reg [
 p 18 (.faddr 0) [.s 2],
 p 19 (.load none) [.s 18],
 p 4 .mv [.s 19]])
 .ret)
 .skip)))))
 (.seq (.reg [
 p 20 .mv [.s 1],
 p 21 (.faddr 0) [.s 2],
 p 22 (.load none) [.s 21],
 p 23 (.bin .add) [.s 20, .s 22],
 p 4 .mv [.s 23]])
 .ret)))
def F317 : AFun where
  n := 11
  res := [.tmp 2]
  code := (.seq (.reg [
 p 2 .mv [.c (.int .u64 0)]])
 (.seq (.seq (.reg [
 p 3 .mv [.s 0],
 p 4 (.bin .lss) [.s 3, .c zz],
 p 5 .mv [.s 4],
  ⟨6, true, .mv, [.s 0], (some (5, false)), [], []⟩,
  ⟨7, true, .bin .geq, [.s 6, .c (.int .i64 64)], (some (5, false)), [], []⟩,
 p 8 .pick [.s 5, .c (.bool true), .s 7]])
 (.cond (.s 8) (.seq (.reg [
 p 2 .mv [.c (.int .u64 0)]])
 .ret)
 .skip))
 (.seq (.reg [
 p 9 .mv [.s 0],
 p 10 (.bin .shl) [.c (.int .u64 1), .s 9],
 p 2 .mv [.s 10]])
 .ret)))
def F318 : AFun where
  n := 6
  res := [.tmp 2]
  code := (.seq (.reg [
 p 2 .mv [.c ff]])
 (.seq (.reg [
 p 3 .mv [.s 0],
 p 4 .mv [.s 0],
 p 5 (.bin .neq) [.s 3, .s 4],
 p 2 .mv [.s 5]])
 .ret))
def F319 : AFun where
  n := 8
  res := [.cell 2 (some 11)]
  code := (.seq (.reg [
 p 1 (.box 11) [.s 0],
 p 2 (.zero [zz, zz, zz, zz, zz, zz, zz, zz, zz, et, ff]) []])
 (.seq (.reg [
 p 3 (.faddr 9) [.s 1],
 p 4 (.load none) [.s 3],
 p 5 (.call 136) [.s 4],
 p 6 (.faddr 9) [.s 1],
  ⟨500, false, .store 1, [.s 6, .s 5], none, [], []⟩])
 (.seq (.reg [
 p 7 (.load (some 11)) [.s 1],
  ⟨501, false, .store 11, [.s 2, .s 7], none, [], []⟩])
 .ret)))
def F320 : AFun where
  n := 25
  res := [.tmp 4]
  code := (.seq (.reg [
 p 4 .mv [.c zz]])
 (.seq (.block 0 (.seq (.reg [
 p 6 .mv [.s 1],
 p 7 (.bin .leq) [.s 6, .c (.int .i64 (-64))],
 p 8 .mv [.s 7],
  ⟨9, true, .mv, [.s 1], (some (8, false)), [], []⟩,
  ⟨10, true, .bin .geq, [.s 9, .c (.int .i64 64)], (some (8, false)), [], []⟩,
 p 11 .pick [.s 8, .c (.bool true), .s 10],
 p 5 .mv [.s 11]])
 (.cond (.s 5) (.seq (.reg [
 p 12 .mv [.s 0],
 p 4 .mv [.s 12]])
 .ret)
 (.seq (.reg [
 p 14 .mv [.s 1],
 p 15 (.bin .lss) [.s 14, .c zz],
 p 13 .mv [.s 15]])
 (.cond (.s 13) (.seq (.reg [
 p 16 .mv [.s 0],
 p 17 .mv [.s 1],
 p 18 (.un .neg) [.s 17],
 p 19 (.bin .shr) [.s 16, .s 18],
 p 4 .mv [.s 19]])
 .ret)
 .skip)))))
 (.seq (.reg [
 p 20 .mv [.s 0],
 p 21 (.conv .u64) [.s 20],
 p 22 .mv [.s 1],
 p 23 (.bin .shl) [.s 21, .s 22],
 p 24 (.conv .i64) [.s 23],
 p 4 .mv [.s 24]])
 .ret)))
def F321 : AFun where
  n := 19
  res := [.tmp 4]
  code := (.seq (.reg [
 p 4 .mv [.c zz]])
 (.seq (.seq (.reg [
 p 5 .mv [.s 1],
 p 6 (.bin .lss) [.s 5, .c (.int .i64 1)],
 p 7 .mv [.s 6],
  ⟨8, true, .mv, [.s 1], (some (7, false)), [], []⟩,
  ⟨9, true, .bin .gtr, [.s 8, .c (.int .i64 64)], (some (7, false)), [], []⟩,
 p 10 .pick [.s 7, .c (.bool true), .s 9]])
 (.cond (.s 10) (.seq (.reg [
 p 11 .mv [.s 0],
 p 4 .mv [.s 11]])
 .ret)
 .skip))
 (.seq (.reg [
 p 12 .mv [.s 0],
 p 13 .mv [.s 1],
 p 14 (.bin .sub) [.c (.int .i64 64), .s 13],
 p 15 (.bin .shl) [.s 12, .s 14],
 p 16 .mv [.s 1],
 p 17 (.bin .sub) [.c (.int .i64 64), .s 16],
 p 18 (.bin .shr) [.s 15, .s 17],
 p 4 .mv [.s 18]])
 .ret)))
def F322 : AFun where
  n := 55
  res := [.cell 2 (some 11)]
  code := (.seq (.reg [
 p 1 (.box 11) [.s 0],
 p 2 (.zero [zz, zz, zz, zz, zz, zz, zz, zz, zz, et, ff]) []])
 (.seq (.seq (.reg [
 p 5 (.faddr 9) [.s 1],
 p 6 (.load none) [.s 5],
 p 7 .len [.s 6],
 p 3 .mv [.s 7]])
 (.block 0 (.loop (.seq (.seq (.drw [
 p 8 .mv [.s 3],
 p 9 (.bin .gtr) [.s 8, .c zz],
 p 10 .mv [.s 9],
  ⟨11, true, .faddr 9, [.s 1], (some (10, true)), [], []⟩,
  ⟨12, true, .load none, [.s 11], (some (10, true)), [1], []⟩,
  ⟨13, true, .mv, [.s 3], (some (10, true)), [], []⟩,
  ⟨14, true, .bin .sub, [.s 13, .c (.int .i64 1)], (some (10, true)), [], []⟩,
  ⟨15, true, .iaddr 3, [.s 12, .s 14], (some (10, true)), [], []⟩,
  ⟨16, true, .faddr 1, [.s 15], (some (10, true)), [], []⟩,
  ⟨17, true, .load none, [.s 16], (some (10, true)), [], []⟩,
  ⟨18, true, .faddr 0, [.s 1], (some (10, true)), [], []⟩,
  ⟨19, true, .load none, [.s 18], (some (10, true)), [1], []⟩,
  ⟨20, true, .bin .lss, [.s 17, .s 19], (some (10, true)), [], []⟩,
 p 21 .pick [.s 10, .s 20, .c ff]])
 (.cond (.s 21) .skip
 (.exit 0)))
 (.seq (.block 1 (.seq (.seq (.reg [
 p 25 (.faddr 9) [.s 1],
 p 26 (.load none) [.s 25],
 p 27 .mv [.s 3],
 p 28 (.bin .sub) [.s 27, .c (.int .i64 1)],
 p 29 (.iaddr 3) [.s 26, .s 28],
 p 4 .mv [.s 29]])
 (.seq (.reg [
 p 30 .mv [.s 4],
 p 31 .nilck [.s 30],
 p 32 (.faddr 2) [.s 31],
 p 33 (.load none) [.s 32],
 p 34 (.bin .gtr) [.s 33, .c zz]])
 (.cond (.s 34) (.seq (.reg [
 p 35 .mv [.s 4],
 p 36 .nilck [.s 35],
 p 37 (.faddr 0) [.s 36],
 p 38 (.load none) [.s 37],
 p 39 (.faddr 0) [.s 1],
  ⟨500, false, .store 1, [.s 39, .s 38], none, [], []⟩])
 (.seq (.reg [
 p 40 .mv [.s 4],
 p 41 .nilck [.s 40],
 p 42 (.faddr 2) [.s 41],
 p 43 (.load none) [.s 42],
 p 44 (.bin .sub) [.s 43, .c (.int .i64 1)],
 p 45 .nilck [.s 40],
 p 46 (.faddr 2) [.s 45],
  ⟨501, false, .store 1, [.s 46, .s 44], none, [], []⟩])
 (.seq (.reg [
 p 47 (.load (some 11)) [.s 1],
  ⟨502, false, .store 11, [.s 2, .s 47], none, [], []⟩])
 .ret)))
 .skip)))
 (.reg [
 p 48 (.faddr 9) [.s 1],
 p 49 (.load none) [.s 48],
 p 50 .mv [.s 3],
 p 51 (.bin .sub) [.s 50, .c (.int .i64 1)],
 p 52 (.slice 3 false true) [.s 49, .s 51],
 p 53 (.faddr 9) [.s 1],
  ⟨503, false, .store 1, [.s 53, .s 52], none, [], []⟩])))
 (.reg [
 p 22 (.faddr 9) [.s 1],
 p 23 (.load none) [.s 22],
 p 24 .len [.s 23],
 p 3 .mv [.s 24]]))))))
 (.seq (.reg [
 p 54 (.load (some 11)) [.s 1],
  ⟨504, false, .store 11, [.s 2, .s 54], none, [], []⟩])
 .ret)))
def F323 : AFun where
  n := 49
  res := [.tmp 2]
  code := (.seq (.reg [
 p 2 .mv [.c et]])
 (.seq (.reg [
 p 3 .mv [.c et]])
 (.seq (.seq (.reg [
 p 4 .mv [.c zz]])
 (.block 0 (.loop (.seq (.seq (.reg [
 p 5 .mv [.s 4],
 p 6 .mv [.s 0],
 p 7 .len [.s 6],
 p 8 (.bin .lss) [.s 5, .s 7]])
 (.cond (.s 8) .skip
 (.exit 0)))
 (.seq (.block 1 (.seq (.reg [
 p 11 .mv [.s 0],
 p 12 .mv [.s 4],
 p 13 (.iaddr 4) [.s 11, .s 12],
 p 14 (.faddr 0) [.s 13],
 p 15 (.load none) [.s 14]])
 (.block 2 (.seq (.reg [
 p 17 (.bin .eql) [.s 15, .c (.int .i64 7)],
 p 16 .mv [.s 17]])
 (.cond (.s 16) (.reg [
 p 18 .mv [.s 3],
 p 19 .mv [.s 4],
 p 20 (.bin .add) [.s 19, .c (.int .i64 1)],
 p 21 .mv [.s 4],
 p 22 .mv [.s 0],
 p 23 .mv [.s 4],
 p 24 (.iaddr 4) [.s 22, .s 23],
 p 25 (.faddr 3) [.s 24],
 p 26 (.load none) [.s 25],
 p 27 (.bin .add) [.s 21, .s 26],
 p 28 .mv [.s 4],
 p 29 (.build [zz, zz, zz, ff] [(0, 1), (1, 1), (2, 1), (3, 1)]) [.s 20, .s 27, .s 28, .c ff],
 p 30 (.buildSl 4 [zz, zz, zz, ff] 1 [0]) [.s 29],
 p 31 (.app 4 32 [zz, zz, zz, ff]) [.s 18, .s 30],
 p 3 .mv [.s 31]])
 (.seq (.reg [
 p 33 (.bin .eql) [.s 15, .c (.int .i64 8)],
 p 32 .mv [.s 33]])
 (.cond (.s 32) (.reg [
 p 34 .mv [.s 3],
 p 35 .mv [.s 4],
 p 36 (.bin .add) [.s 35, .c (.int .i64 1)],
 p 37 .mv [.s 4],
 p 38 .mv [.s 0],
 p 39 .mv [.s 4],
 p 40 (.iaddr 4) [.s 38, .s 39],
 p 41 (.faddr 2) [.s 40],
 p 42 (.load none) [.s 41],
 p 43 (.bin .add) [.s 37, .s 42],
 p 44 .mv [.s 4],
 p 45 (.build [zz, zz, zz, ff] [(0, 1), (1, 1), (2, 1), (3, 1)]) [.s 36, .s 43, .s 44, .c (.bool true)],
 p 46 (.buildSl 4 [zz, zz, zz, ff] 1 [0]) [.s 45],
 p 47 (.app 4 32 [zz, zz, zz, ff]) [.s 34, .s 46],
 p 3 .mv [.s 47]])
 .skip)))))))
 (.reg [
 p 9 .mv [.s 4],
 p 10 (.bin .add) [.s 9, .c (.int .i64 1)],
 p 4 .mv [.s 10]]))))))
 (.seq (.reg [
 p 48 .mv [.s 3],
 p 2 .mv [.s 48]])
 .ret))))
def F324 : AFun where
  n := 15
  res := [.tmp 4]
  code := (.seq (.reg [
 p 2 (.box 4) [.s 0],
 p 4 .mv [.c ff]])
 (.seq (.reg [
 p 5 (.faddr 0) [.s 2],
 p 6 (.load none) [.s 5],
 p 7 .mv [.s 1],
 p 8 (.bin .leq) [.s 6, .s 7],
 p 9 .mv [.s 8],
  ⟨10, true, .mv, [.s 1], (some (9, true)), [], []⟩,
  ⟨11, true, .faddr 1, [.s 2], (some (9, true)), [], []⟩,
  ⟨12, true, .load none, [.s 11], (some (9, true)), [], []⟩,
  ⟨13, true, .bin .leq, [.s 10, .s 12], (some (9, true)), [], []⟩,
 p 14 .pick [.s 9, .s 13, .c ff],
 p 4 .mv [.s 14]])
 .ret))
def F325 : AFun where
  n := 37
  res := [.tmp 6]
  code := (.seq (.reg [
 p 6 .mv [.c zz]])
 (.seq (.reg [
 p 7 .mv [.c zz]])
 (.seq (.seq (.reg [
 p 8 .mv [.c zz]])
 (.block 0 (.loop (.seq (.seq (.reg [
 p 9 .mv [.s 8],
 p 10 .mv [.s 0],
 p 11 .len [.s 10],
 p 12 (.bin .lss) [.s 9, .s 11]])
 (.cond (.s 12) .skip
 (.exit 0)))
 (.seq (.block 1 (.seq (.reg [
 p 15 .mv [.s 0],
 p 16 .mv [.s 8],
 p 17 (.iaddr 4) [.s 15, .s 16],
 p 18 (.faddr 0) [.s 17],
 p 19 (.load none) [.s 18],
 p 20 (.bin .eql) [.s 19, .c (.int .i64 9)],
 p 21 .mv [.s 20],
  ⟨22, true, .mv, [.s 8], (some (21, true)), [], []⟩,
  ⟨23, true, .mv, [.s 2], (some (21, true)), [], []⟩,
  ⟨24, true, .bin .lss, [.s 22, .s 23], (some (21, true)), [], []⟩,
 p 25 .pick [.s 21, .s 24, .c ff],
 p 26 .mv [.s 25],
  ⟨27, true, .mv, [.s 2], (some (26, true)), [], []⟩,
  ⟨28, true, .mv, [.s 1], (some (26, true)), [], []⟩,
  ⟨29, true, .mv, [.s 8], (some (26, true)), [], []⟩,
  ⟨30, true, .iaddr 1, [.s 28, .s 29], (some (26, true)), [], []⟩,
  ⟨31, true, .load none, [.s 30], (some (26, true)), [], []⟩,
  ⟨32, true, .bin .lss, [.s 27, .s 31], (some (26, true)), [], []⟩,
 p 33 .pick [.s 26, .s 32, .c ff]])
 (.cond (.s 33) (.reg [
 p 34 .mv [.s 7],
 p 35 (.bin .add) [.s 34, .c (.int .i64 1)],
 p 7 .mv [.s 35]])
 .skip)))
 (.reg [
 p 13 .mv [.s 8],
 p 14 (.bin .add) [.s 13, .c (.int .i64 1)],
 p 8 .mv [.s 14]]))))))
 (.seq (.reg [
 p 36 .mv [.s 7],
 p 6 .mv [.s 36]])
 .ret))))
def F326 : AFun where
  n := 13
  res := [.tmp 4, .tmp 5]
  code := (.seq (.reg [
 p 4 .mv [.c zz],
 p 5 .mv [.c ff]])
 (.seq (.seq (.reg [
 p 6 .mv [.s 0],
 p 7 .mv [.s 1],
 p 8 (.bin .sub) [.c (.int .i64 9223372036854775807), .s 7],
 p 9 (.bin .gtr) [.s 6, .s 8]])
 (.cond (.s 9) (.seq (.reg [
 p 4 .mv [.c zz],
 p 5 .mv [.c ff]])
 .ret)
 .skip))
 (.seq (.reg [
 p 10 .mv [.s 0],
 p 11 .mv [.s 1],
 p 12 (.bin .add) [.s 10, .s 11],
 p 4 .mv [.s 12],
 p 5 .mv [.c (.bool true)]])
 .ret)))
def F327 : AFun where
  n := 23
  res := [.tmp 4, .tmp 5]
  code := (.seq (.reg [
 p 4 .mv [.c zz],
 p 5 .mv [.c ff]])
 (.seq (.seq (.reg [
 p 7 .mv [.s 1],
 p 8 (.bin .lss) [.s 7, .c (.int .i64 1)],
 p 9 .mv [.s 8],
  ⟨10, true, .mv, [.s 0], (some (9, false)), [], []⟩,
  ⟨11, true, .bin .lss, [.s 10, .c zz], (some (9, false)), [], []⟩,
 p 12 .pick [.s 9, .c (.bool true), .s 11]])
 (.cond (.s 12) (.seq (.reg [
 p 4 .mv [.c zz],
 p 5 .mv [.c ff]])
 .ret)
 .skip))
 (.seq (.reg [
 p 13 .mv [.s 0],
 p 14 .mv [.s 1],
 p 15 (.bin .quo) [.s 13, .s 14],
 p 6 .mv [.s 15]])
 (.seq (.seq (.reg [
 p 16 .mv [.s 0],
 p 17 .mv [.s 1],
 p 18 (.bin .rem) [.s 16, .s 17],
 p 19 (.bin .gtr) [.s 18, .c zz]])
 (.cond (.s 19) (.reg [
 p 20 .mv [.s 6],
 p 21 (.bin .add) [.s 20, .c (.int .i64 1)],
 p 6 .mv [.s 21]])
 .skip))
 (.seq (.reg [
 p 22 .mv [.s 6],
 p 4 .mv [.s 22],
 p 5 .mv [.c (.bool true)]])
 .ret)))))
def F328 : AFun where
  n := 17
  res := [.tmp 4, .tmp 5]
  code := (.seq (.reg [
 p 4 .mv [.c zz],
 p 5 .mv [.c ff]])
 (.seq (.seq (.reg [
 p 6 .mv [.s 0],
 p 7 (.bin .gtr) [.s 6, .c zz],
 p 8 .mv [.s 7],
  ⟨9, true, .mv, [.s 1], (some (8, true)), [], []⟩,
  ⟨10, true, .mv, [.s 0], (some (8, true)), [], []⟩,
  ⟨11, true, .bin .quo, [.c (.int .i64 9223372036854775807), .s 10], (some (8, true)), [], []⟩,
  ⟨12, true, .bin .gtr, [.s 9, .s 11], (some (8, true)), [], []⟩,
 p 13 .pick [.s 8, .s 12, .c ff]])
 (.cond (.s 13) (.seq (.reg [
 p 4 .mv [.c zz],
 p 5 .mv [.c ff]])
 .ret)
 .skip))
 (.seq (.reg [
 p 14 .mv [.s 0],
 p 15 .mv [.s 1],
 p 16 (.bin .mul) [.s 14, .s 15],
 p 4 .mv [.s 16],
 p 5 .mv [.c (.bool true)]])
 .ret)))
def F1011 : AFun where
  n := 120
  res := [.tmp 6]
  code := (.seq (.reg [
 p 6 .mv [.c ff]])
 (.seq (.seq (.reg [
 p 23 (.call 1017) [],
 p 24 (.un .not) [.s 23]])
 (.cond (.s 24) (.seq (.reg [
 p 6 .mv [.c ff]])
 .ret)
 .skip))
 (.seq (.reg [
 p 26 .mv [.s 0],
 p 27 (.call 22) [.s 26],
 p 25 .mv [.s 27],
 p 28 (.extract 0) [.s 25],
 p 29 (.extract 1) [.s 25],
 p 7 (.zero [zz, zz, et, et, ff, ff, ff, et, et, et, et, et, et]) [],
  ⟨500, false, .store 13, [.s 7, .s 28], none, [], []⟩,
 p 8 .mv [.s 29]])
 (.seq (.seq (.reg [
 p 30 .mv [.s 8],
 p 31 .mv [.s 0],
 p 32 (.bin .geq) [.s 31, .c (.int .i64 1)],
 p 33 .mv [.s 32],
  ⟨34, true, .mv, [.s 0], (some (33, true)), [], []⟩,
  ⟨35, true, .bin .leq, [.s 34, .c (.int .i64 4611686018427387904)], (some (33, true)), [], []⟩,
 p 36 .pick [.s 33, .s 35, .c ff],
 p 37 (.eqv false [none] true) [.s 30, .s 36]])
 (.cond (.s 37) (.seq (.reg [
 p 6 .mv [.c ff]])
 .ret)
 .skip))
 (.seq (.seq (.reg [
 p 38 .mv [.s 8],
 p 39 (.un .not) [.s 38]])
 (.cond (.s 39) (.seq (.reg [
 p 40 (.faddr 1) [.s 7],
 p 41 (.load none) [.s 40],
 p 42 (.bin .eql) [.s 41, .c zz],
 p 43 .mv [.s 42],
  ⟨44, true, .faddr 8, [.s 7], (some (43, true)), [], []⟩,
  ⟨45, true, .faddr 2, [.s 44], (some (43, true)), [], []⟩,
  ⟨46, true, .load none, [.s 45], (some (43, true)), [], []⟩,
  ⟨47, true, .len, [.s 46], (some (43, true)), [], []⟩,
  ⟨48, true, .bin .eql, [.s 47, .c zz], (some (43, true)), [], []⟩,
 p 49 .pick [.s 43, .s 48, .c ff],
 p 6 .mv [.s 49]])
 .ret)
 .skip))
 (.seq (.reg [
 p 51 .mv [.s 0],
 p 52 (.call 30) [.s 51],
 p 50 .mv [.s 52],
 p 53 (.extract 0) [.s 50],
 p 54 (.extract 1) [.s 50],
 p 9 (.zero [zz, zz, et, et, ff, ff, ff, et, et, et, et, et, et]) [],
  ⟨501, false, .store 13, [.s 9, .s 53], none, [], []⟩,
 p 10 .mv [.s 54]])
 (.seq (.reg [
 p 56 (.load (some 13)) [.s 7],
 p 57 .mv [.s 1],
 p 58 .mv [.s 2],
 p 59 (.call 47) [.s 56, .s 57, .s 58],
 p 55 .mv [.s 59],
 p 60 (.extract 0) [.s 55],
 p 61 (.extract 1) [.s 55],
 p 62 (.extract 2) [.s 55],
 p 11 (.zero [zz, zz, et, et, ff, ff, ff, et, et, et, et, et, et]) [],
  ⟨502, false, .store 13, [.s 11, .s 60], none, [], []⟩,
 p 12 .mv [.s 61],
 p 13 .mv [.s 62]])
 (.seq (.reg [
 p 64 (.load (some 13)) [.s 7],
 p 65 (.call 45) [.s 64],
 p 63 .mv [.s 65],
 p 66 (.extract 0) [.s 63],
 p 67 (.extract 1) [.s 63],
 p 14 (.zero [zz, zz, et, et, ff, ff, ff, et, et, et, et, et, et]) [],
  ⟨503, false, .store 13, [.s 14, .s 66], none, [], []⟩,
 p 15 .mv [.s 67]])
 (.seq (.reg [
 p 69 (.load (some 13)) [.s 14],
 p 70 (.call 123) [.s 69],
 p 68 .mv [.s 70],
 p 71 (.extract 0) [.s 68],
 p 72 (.extract 1) [.s 68],
 p 16 (.zero [zz, zz, et, et, ff, ff, ff, et, et, et, et, et, et]) [],
  ⟨504, false, .store 13, [.s 16, .s 71], none, [], []⟩,
 p 17 .mv [.s 72]])
 (.seq (.reg [
 p 74 (.load (some 13)) [.s 16],
 p 75 (.call 123) [.s 74],
 p 73 .mv [.s 75],
 p 76 (.extract 0) [.s 73],
 p 77 (.extract 1) [.s 73],
 p 18 (.zero [zz, zz, et, et, ff, ff, ff, et, et, et, et, et, et]) [],
  ⟨505, false, .store 13, [.s 18, .s 76], none, [], []⟩,
 p 19 .mv [.s 77]])
 (.seq (.reg [
 p 79 (.load (some 13)) [.s 16],
 p 80 .mv [.s 1],
 p 81 .mv [.s 2],
 p 82 (.call 47) [.s 79, .s 80, .s 81],
 p 78 .mv [.s 82],
 p 83 (.extract 0) [.s 78],
 p 84 (.extract 1) [.s 78],
 p 85 (.extract 2) [.s 78],
 p 20 (.zero [zz, zz, et, et, ff, ff, ff, et, et, et, et, et, et]) [],
  ⟨506, false, .store 13, [.s 20, .s 83], none, [], []⟩,
 p 21 .mv [.s 84],
 p 22 .mv [.s 85]])
 (.seq (.drw [
  ⟨86, true, .load (some 13), [.s 7], none, [7], []⟩,
  ⟨87, true, .call 15, [.s 86], none, [27], [27]⟩,
  ⟨88, true, .load (some 13), [.s 9], none, [9], []⟩,
  ⟨89, true, .call 14, [.s 87, .s 88], none, [87, 52], []⟩,
 p 90 .mv [.s 89],
  ⟨91, true, .mv, [.s 13], (some (90, true)), [], []⟩,
  ⟨92, true, .bin .eql, [.s 91, .c (.int .i64 8)], (some (90, true)), [], []⟩,
 p 93 .pick [.s 90, .s 92, .c ff],
 p 94 .mv [.s 93],
  ⟨95, true, .faddr 0, [.s 14], (some (94, true)), [], []⟩,
  ⟨96, true, .load none, [.s 95], (some (94, true)), [14], []⟩,
  ⟨97, true, .bin .eql, [.s 96, .c (.int .i64 1)], (some (94, true)), [], []⟩,
 p 98 .pick [.s 94, .s 97, .c ff],
 p 99 .mv [.s 98],
  ⟨100, true, .mv, [.s 15], (some (99, true)), [], []⟩,
  ⟨101, true, .len, [.s 100], (some (99, true)), [], []⟩,
  ⟨102, true, .bin .eql, [.s 101, .c zz], (some (99, true)), [], []⟩,
 p 103 .pick [.s 99, .s 102, .c ff],
 p 104 .mv [.s 103],
  ⟨105, true, .mv, [.s 17], (some (104, true)), [], []⟩,
  ⟨106, true, .bin .eql, [.s 105, .c zz], (some (104, true)), [], []⟩,
 p 107 .pick [.s 104, .s 106, .c ff],
 p 108 .mv [.s 107],
  ⟨109, true, .faddr 4, [.s 16], (some (108, true)), [], []⟩,
  ⟨110, true, .load none, [.s 109], (some (108, true)), [16], []⟩,
 p 111 .pick [.s 108, .s 110, .c ff],
 p 112 .mv [.s 111],
  ⟨113, true, .mv, [.s 19], (some (112, true)), [], []⟩,
  ⟨114, true, .bin .eql, [.s 113, .c (.int .i64 7)], (some (112, true)), [], []⟩,
 p 115 .pick [.s 112, .s 114, .c ff],
 p 116 .mv [.s 115],
  ⟨117, true, .mv, [.s 22], (some (116, true)), [], []⟩,
  ⟨118, true, .bin .eql, [.s 117, .c (.int .i64 3)], (some (116, true)), [], []⟩,
 p 119 .pick [.s 116, .s 118, .c ff],
 p 6 .mv [.s 119]])
 .ret))))))))))))
def F1017 : AFun where
  n := 114
  res := [.tmp 0]
  code := (.seq (.reg [
 p 0 .mv [.c ff]])
 (.seq (.reg [
 p 16 (.call 22) [.c (.int .i64 50)],
 p 15 .mv [.s 16],
 p 17 (.extract 0) [.s 15],
 p 18 (.extract 1) [.s 15],
 p 1 (.zero [zz, zz, et, et, ff, ff, ff, et, et, et, et, et, et]) [],
  ⟨500, false, .store 13, [.s 1, .s 17], none, [], []⟩,
 p 2 .mv [.s 18]])
 (.seq (.reg [
 p 20 (.build [zz, zz, zz, zz] [(0, 1)]) [.c zz],
 p 21 (.buildSl 4 [zz, zz, zz, zz] 1 [0]) [.s 20],
 p 22 (.build [zz, zz, zz, et, et, et] [(0, 1), (1, 1), (2, 1), (3, 1)]) [.c (.int .i64 1), .c (.int .i64 20), .c (.int .i64 20), .s 21],
 p 23 (.call 100) [.c et, .s 22, .c (.int .i64 50)],
 p 19 .mv [.s 23],
 p 24 (.extract 0) [.s 19],
 p 25 (.extract 1) [.s 19],
 p 26 (.extract 2) [.s 19],
 p 3 .mv [.s 24],
 p 4 .mv [.s 25],
 p 5 .mv [.s 26]])
 (.seq (.reg [
 p 27 .mv [.s 3],
 p 28 .mv [.s 4],
 p 29 (.faddr 2) [.s 1],
  ⟨501, false, .store 1, [.s 29, .s 27], none, [], []⟩,
 p 30 (.faddr 3) [.s 1],
  ⟨502, false, .store 1, [.s 30, .s 28], none, [], []⟩])
 (.seq (.reg [
 p 32 (.load (some 13)) [.s 1],
 p 33 (.call 123) [.s 32],
 p 31 .mv [.s 33],
 p 34 (.extract 0) [.s 31],
 p 35 (.extract 1) [.s 31],
 p 6 (.zero [zz, zz, et, et, ff, ff, ff, et, et, et, et, et, et]) [],
  ⟨503, false, .store 13, [.s 6, .s 34], none, [], []⟩,
 p 7 .mv [.s 35]])
 (.seq (.drw [
 p 36 (.mkslice [zz] 8) [.c (.int .i64 1), .c (.int .i64 1)],
 p 37 (.mkslice [ff] 1) [.c (.int .i64 1), .c (.int .i64 1)],
 p 38 (.faddr 11) [.s 6],
 p 39 (.faddr 0) [.s 38],
  ⟨504, false, .store 1, [.s 39, .s 36], none, [6, 36], [6]⟩,
 p 40 (.faddr 11) [.s 6],
 p 41 (.faddr 1) [.s 40],
  ⟨505, false, .store 1, [.s 41, .s 37], none, [6, 37], [6]⟩])
 (.seq (.reg [
 p 43 (.load (some 13)) [.s 6],
 p 44 (.call 47) [.s 43, .c zz, .c (.int .i64 7)],
 p 42 .mv [.s 44],
 p 45 (.extract 0) [.s 42],
 p 46 (.extract 1) [.s 42],
 p 47 (.extract 2) [.s 42],
 p 8 (.zero [zz, zz, et, et, ff, ff, ff, et, et, et, et, et, et]) [],
  ⟨506, false, .store 13, [.s 8, .s 45], none, [], []⟩,
 p 9 .mv [.s 46],
 p 10 .mv [.s 47]])
 (.seq (.reg [
 p 49 (.load (some 13)) [.s 8],
 p 50 (.call 45) [.s 49],
 p 48 .mv [.s 50],
 p 51 (.extract 0) [.s 48],
 p 52 (.extract 1) [.s 48],
 p 11 (.zero [zz, zz, et, et, ff, ff, ff, et, et, et, et, et, et]) [],
  ⟨507, false, .store 13, [.s 11, .s 51], none, [], []⟩,
 p 12 .mv [.s 52]])
 (.seq (.reg [
 p 54 (.call 22) [.c zz],
 p 53 .mv [.s 54],
 p 55 (.extract 0) [.s 53],
 p 56 (.extract 1) [.s 53],
 p 13 (.zero [zz, zz, et, et, ff, ff, ff, et, et, et, et, et, et]) [],
  ⟨508, false, .store 13, [.s 13, .s 55], none, [], []⟩,
 p 14 .mv [.s 56]])
 (.seq (.reg [
 p 57 .mv [.s 2],
 p 58 .mv [.s 57],
  ⟨59, true, .mv, [.s 5], (some (58, true)), [], []⟩,
  ⟨60, true, .bin .eql, [.s 59, .c zz], (some (58, true)), [], []⟩,
 p 61 .pick [.s 58, .s 60, .c ff],
 p 62 .mv [.s 61],
  ⟨63, true, .mv, [.s 7], (some (62, true)), [], []⟩,
  ⟨64, true, .bin .eql, [.s 63, .c zz], (some (62, true)), [], []⟩,
 p 65 .pick [.s 62, .s 64, .c ff],
 p 66 .mv [.s 65],
  ⟨67, true, .mv, [.s 10], (some (66, true)), [], []⟩,
  ⟨68, true, .bin .eql, [.s 67, .c zz], (some (66, true)), [], []⟩,
 p 69 .pick [.s 66, .s 68, .c ff],
 p 70 .mv [.s 69],
  ⟨71, true, .mv, [.s 9], (some (70, true)), [], []⟩,
  ⟨72, true, .len, [.s 71], (some (70, true)), [], []⟩,
  ⟨73, true, .bin .eql, [.s 72, .c (.int .i64 1)], (some (70, true)), [], []⟩,
 p 74 .pick [.s 70, .s 73, .c ff],
 p 75 .mv [.s 74],
  ⟨76, true, .faddr 7, [.s 8], (some (75, true)), [], []⟩,
  ⟨77, true, .load none, [.s 76], (some (75, true)), [], []⟩,
  ⟨78, true, .len, [.s 77], (some (75, true)), [], []⟩,
  ⟨79, true, .bin .eql, [.s 78, .c (.int .i64 1)], (some (75, true)), [], []⟩,
 p 80 .pick [.s 75, .s 79, .c ff],
 p 81 .mv [.s 80],
  ⟨82, true, .faddr 0, [.s 11], (some (81, true)), [], []⟩,
  ⟨83, true, .load none, [.s 82], (some (81, true)), [], []⟩,
  ⟨84, true, .bin .eql, [.s 83, .c (.int .i64 1)], (some (81, true)), [], []⟩,
 p 85 .pick [.s 81, .s 84, .c ff],
 p 86 .mv [.s 85],
  ⟨87, true, .faddr 7, [.s 11], (some (86, true)), [], []⟩,
  ⟨88, true, .load none, [.s 87], (some (86, true)), [], []⟩,
  ⟨89, true, .len, [.s 88], (some (86, true)), [], []⟩,
  ⟨90, true, .bin .eql, [.s 89, .c zz], (some (86, true)), [], []⟩,
 p 91 .pick [.s 86, .s 90, .c ff],
 p 92 .mv [.s 91],
  ⟨93, true, .mv, [.s 12], (some (92, true)), [], []⟩,
  ⟨94, true, .len, [.s 93], (some (92, true)), [], []⟩,
  ⟨95, true, .bin .eql, [.s 94, .c (.int .i64 2)], (some (92, true)), [], []⟩,
 p 96 .pick [.s 92, .s 95, .c ff],
 p 97 .mv [.s 96],
  ⟨98, true, .mv, [.s 12], (some (97, true)), [], []⟩,
  ⟨99, true, .iaddr 6, [.s 98, .c (.int .i64 1)], (some (97, true)), [], []⟩,
  ⟨100, true, .load (some 6), [.s 99], (some (97, true)), [], []⟩,
  ⟨101, true, .build [zz, zz, zz, zz, zz, zz] [(1, 1), (4, 1)], [.c (.int .i64 3), .c (.int .i64 7)], (some (97, true)), [], []⟩,
  ⟨102, true, .eqv true [some .i64, some .i64, some .i64, some .i64, some .i64, some .i64] false, [.s 100, .s 101], (some (97, true)), [], []⟩,
 p 103 .pick [.s 97, .s 102, .c ff],
 p 104 .mv [.s 103],
  ⟨105, true, .mv, [.s 14], (some (104, true)), [], []⟩,
  ⟨106, true, .un .not, [.s 105], (some (104, true)), [], []⟩,
 p 107 .pick [.s 104, .s 106, .c ff],
 p 108 .mv [.s 107],
  ⟨109, true, .load (some 13), [.s 11], (some (108, true)), [], []⟩,
  ⟨110, true, .call 146, [.s 109], (some (108, true)), [], []⟩,
  ⟨111, true, .len, [.s 110], (some (108, true)), [], []⟩,
  ⟨112, true, .bin .eql, [.s 111, .c zz], (some (108, true)), [], []⟩,
 p 113 .pick [.s 108, .s 112, .c ff],
 p 0 .mv [.s 113]])
 .ret))))))))))
end Fo.Tryz
