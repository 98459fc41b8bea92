/-
  The functions that FaultApart reaches, as the frame's own machine has them.
-/
import Derived.Test.YtildnnhlpdcglaaFoW
set_option linter.unusedVariables false
namespace Fo.W
open Go Fo
abbrev p (d : Nat) (k : K) (xs : List AOpd) : AOp := ⟨d, true, k, xs, none, [], []⟩
abbrev zz : V := .int .i64 0
abbrev ff : V := .bool false
abbrev se : V := .sl []
abbrev et : V := .e true
def F136 : AFun := cloneOf 3 24 [zz, zz, zz]
def F137 : AFun := cloneOf 1 8 [zz]
def F144 : AFun where
  n := 13
  res := [.cell 4 (some 28)]
  code := (.seq (.reg [
 p 2 (.box 28) [.s 0],
 p 3 (.box 1) [.s 1],
 p 4 (.zero [zz, zz, zz, zz, zz, zz, zz, zz, zz, zz, zz, zz, zz, et, ff, zz, zz, zz, zz, zz, zz, zz, zz, zz, et, ff, et, ff]) []])
 (.seq (.reg [
 p 5 (.load (some 28)) [.s 2],
 p 6 (.call 218) [.s 5],
  ⟨500, false, .store 28, [.s 2, .s 6], none, [], []⟩])
 (.seq (.reg [
 p 7 (.faddr 26) [.s 2],
 p 8 (.load none) [.s 7],
 p 9 (.mkfn 220 0) [.s 3],
 p 10 (.call 219) [.s 8, .s 9],
 p 11 (.faddr 26) [.s 2],
  ⟨501, false, .store 1, [.s 11, .s 10], none, [], []⟩])
 (.seq (.reg [
 p 12 (.load (some 28)) [.s 2],
  ⟨502, false, .store 28, [.s 4, .s 12], none, [], []⟩])
 .ret))))
def F155 : AFun where
  n := 7
  res := [.cell 2 (some 11)]
  code := (.seq (.reg [
 p 2 (.zero [zz, zz, zz, zz, zz, zz, zz, zz, zz, et, ff]) []])
 (.seq (.reg [
 p 3 .mv [.s 0],
 p 4 (.faddr 1) [.s 2],
 p 5 (.iaddrA 8 1) [.s 4, .c zz],
  ⟨500, false, .store 1, [.s 5, .s 3], none, [], []⟩])
 (.seq (.reg [
 p 6 (.load (some 11)) [.s 2],
  ⟨501, false, .store 11, [.s 2, .s 6], none, [], []⟩])
 .ret)))
def F170 : AFun where
  n := 16
  res := [.cell 6 (some 28)]
  code := (.seq (.reg [
 p 6 (.zero [zz, zz, zz, zz, zz, zz, zz, zz, zz, zz, zz, zz, zz, et, ff, zz, zz, zz, zz, zz, zz, zz, zz, zz, et, ff, et, ff]) []])
 (.seq (.reg [
 p 8 .mv [.s 2],
 p 9 (.call 239) [.s 8],
 p 7 (.zero [zz, zz, zz, zz, zz, zz, zz, zz, zz, et, ff]) [],
  ⟨500, false, .store 11, [.s 7, .s 9], none, [], []⟩])
 (.seq (.reg [
 p 10 .mv [.s 0],
 p 11 .mv [.s 1],
 p 12 .mv [.s 2],
 p 13 (.load (some 11)) [.s 7],
 p 14 (.load (some 11)) [.s 7],
 p 15 (.build [zz, zz, zz, zz, zz, zz, zz, zz, zz, zz, zz, zz, zz, et, ff, zz, zz, zz, zz, zz, zz, zz, zz, zz, et, ff, et, ff] [(0, 1), (1, 1), (2, 1), (4, 11), (15, 11)]) [.s 10, .s 11, .s 12, .s 13, .s 14],
  ⟨501, false, .store 28, [.s 6, .s 15], none, [], []⟩])
 .ret)))
def F216 : AFun where
  n := 24
  res := [.tmp 4]
  code := (.seq (.reg [
 p 4 .mv [.c et]])
 (.seq (.reg [
 p 7 .mv [.s 0],
 p 8 (.call 270) [.s 7],
 p 5 .mv [.s 8]])
 (.seq (.seq (.reg [
 p 9 .mv [.s 5],
 p 10 .len [.s 9],
 p 11 .mv [.c zz]])
 (.block 0 (.loop (.seq (.reg [
 p 12 (.bin .lss) [.s 11, .s 10]])
 (.seq (.cond (.s 12) .skip
 (.exit 0))
 (.seq (.block 1 (.seq (.reg [
 p 13 .mv [.s 11],
 p 6 .mv [.s 13]])
 (.seq (.reg [
 p 14 .mv [.s 0],
 p 15 .mv [.s 6],
 p 16 .mv [.s 1],
 p 17 (.call 271) [.s 14, .s 15, .s 16]])
 (.cond (.s 17) (.reg [
 p 18 .mv [.s 5],
 p 19 .mv [.s 6],
 p 20 (.iaddr 2) [.s 18, .s 19],
 p 21 (.faddr 1) [.s 20],
  ⟨500, false, .store 1, [.s 21, .c zz], none, [], []⟩])
 .skip))))
 (.reg [
 p 22 (.bin .add) [.s 11, .c (.int .i64 1)],
 p 11 .mv [.s 22]])))))))
 (.seq (.reg [
 p 23 .mv [.s 5],
 p 4 .mv [.s 23]])
 .ret))))
def F218 : AFun where
  n := 20
  res := [.cell 2 (some 28)]
  code := (.seq (.reg [
 p 1 (.box 28) [.s 0],
 p 2 (.zero [zz, zz, zz, zz, zz, zz, zz, zz, zz, zz, zz, zz, zz, et, ff, zz, zz, zz, zz, zz, zz, zz, zz, zz, et, ff, et, ff]) []])
 (.seq (.drw [
 p 3 (.faddr 4) [.s 1],
 p 4 (.faddr 9) [.s 3],
  ⟨5, true, .load none, [.s 4], none, [1], []⟩,
  ⟨6, true, .call 136, [.s 5], none, [6, 10, 13], [6, 10, 13]⟩,
 p 7 (.faddr 15) [.s 1],
 p 8 (.faddr 9) [.s 7],
  ⟨9, true, .load none, [.s 8], none, [1], []⟩,
  ⟨10, true, .call 136, [.s 9], none, [6, 10, 13], [6, 10, 13]⟩,
 p 11 (.faddr 26) [.s 1],
  ⟨12, true, .load none, [.s 11], none, [1], []⟩,
  ⟨13, true, .call 137, [.s 12], none, [6, 10, 13], [6, 10, 13]⟩,
 p 14 (.faddr 4) [.s 1],
 p 15 (.faddr 9) [.s 14],
  ⟨500, false, .store 1, [.s 15, .s 6], none, [1, 6], [1]⟩,
 p 16 (.faddr 15) [.s 1],
 p 17 (.faddr 9) [.s 16],
  ⟨501, false, .store 1, [.s 17, .s 10], none, [1, 10], [1]⟩,
 p 18 (.faddr 26) [.s 1],
  ⟨502, false, .store 1, [.s 18, .s 13], none, [1, 13], [1]⟩])
 (.seq (.reg [
 p 19 (.load (some 28)) [.s 1],
  ⟨503, false, .store 28, [.s 2, .s 19], none, [], []⟩])
 .ret)))
def F219 : AFun where
  n := 42
  res := [.tmp 4]
  code := (.seq (.reg [
 p 4 .mv [.c et]])
 (.seq (.reg [
 p 8 .mv [.s 0],
 p 9 .mv [.s 1],
 p 10 (.call 274) [.s 8, .s 9],
 p 5 .mv [.s 10]])
 (.seq (.seq (.reg [
 p 11 .mv [.s 5],
 p 12 (.bin .eql) [.s 11, .c (.int .i64 (-1))]])
 (.cond (.s 12) (.seq (.reg [
 p 13 .mv [.s 0],
 p 4 .mv [.s 13]])
 .ret)
 .skip))
 (.seq (.seq (.reg [
 p 14 .mv [.s 5],
 p 15 (.bin .add) [.s 14, .c (.int .i64 1)],
 p 6 .mv [.s 15]])
 (.block 0 (.loop (.seq (.seq (.reg [
 p 16 .mv [.s 6],
 p 17 .mv [.s 0],
 p 18 .len [.s 17],
 p 19 (.bin .lss) [.s 16, .s 18]])
 (.cond (.s 19) .skip
 (.exit 0)))
 (.seq (.block 1 (.seq (.reg [
 p 22 .mv [.s 0],
 p 23 .mv [.s 6],
 p 24 (.iaddr 1) [.s 22, .s 23],
 p 25 (.load none) [.s 24],
 p 7 .mv [.s 25]])
 (.seq (.reg [
 p 26 .mv [.s 1],
 p 27 .mv [.s 7],
 p 28 .callv [.s 26, .s 27],
 p 29 (.un .not) [.s 28]])
 (.cond (.s 29) (.seq (.reg [
 p 30 .mv [.s 0],
 p 31 .mv [.s 5],
 p 32 .mv [.s 7],
 p 33 (.iaddr 1) [.s 30, .s 31],
  ⟨500, false, .store 1, [.s 33, .s 32], none, [], []⟩])
 (.reg [
 p 34 .mv [.s 5],
 p 35 (.bin .add) [.s 34, .c (.int .i64 1)],
 p 5 .mv [.s 35]]))
 .skip))))
 (.reg [
 p 20 .mv [.s 6],
 p 21 (.bin .add) [.s 20, .c (.int .i64 1)],
 p 6 .mv [.s 21]]))))))
 (.seq (.reg [
 p 36 .mv [.s 0],
 p 37 .mv [.s 5],
 p 38 (.slice 1 true false) [.s 36, .s 37],
  ⟨501, false, .clear [zz], [.s 38], none, [], []⟩])
 (.seq (.reg [
 p 39 .mv [.s 0],
 p 40 .mv [.s 5],
 p 41 (.slice 1 false true) [.s 39, .s 40],
 p 4 .mv [.s 41]])
 .ret))))))
def F220 : AFun where
  n := 7
  res := [.tmp 3]
  code := (.seq (.reg [
 p 3 .mv [.c ff]])
 (.seq (.reg [
 p 4 .mv [.s 0],
 p 5 (.load none) [.s 1],
 p 6 (.bin .eql) [.s 4, .s 5],
 p 3 .mv [.s 6]])
 .ret))
def F228 : AFun where
  n := 31
  res := [.cell 6 (some 28), .tmp 7, .tmp 8]
  code := (.seq (.reg [
 p 3 (.box 6) [.s 0],
 p 4 (.box 28) [.s 1],
 p 6 (.zero [zz, zz, zz, zz, zz, zz, zz, zz, zz, zz, zz, zz, zz, et, ff, zz, zz, zz, zz, zz, zz, zz, zz, zz, et, ff, et, ff]) [],
 p 7 .mv [.c et],
 p 8 .mv [.c zz]])
 (.seq (.drw [
  ⟨9, true, .load (some 6), [.s 3], none, [3], []⟩,
  ⟨10, true, .load (some 28), [.s 4], none, [4], []⟩,
 p 11 (.call 288) [.s 9, .s 10],
 p 12 .mv [.s 2],
 p 13 (.faddr 0) [.s 4],
  ⟨14, true, .load none, [.s 13], none, [4], []⟩,
 p 15 (.call 216) [.s 12, .s 14],
  ⟨500, false, .store 28, [.s 6, .s 11], none, [6, 11], [6]⟩,
 p 7 .mv [.s 15],
 p 8 .mv [.c (.int .i64 6)]])
 (.seq (.block 0 (.seq (.reg [
 p 17 (.faddr 3) [.s 4],
 p 18 (.load none) [.s 17],
 p 19 (.bin .eql) [.s 18, .c (.int .i64 2)],
 p 16 .mv [.s 19]])
 (.cond (.s 16) (.reg [
 p 20 (.load (some 28)) [.s 4],
 p 21 (.call 218) [.s 20],
  ⟨501, false, .store 28, [.s 6, .s 21], none, [], []⟩,
 p 8 .mv [.c (.int .i64 13)]])
 (.seq (.reg [
 p 23 (.faddr 3) [.s 6],
 p 24 (.load none) [.s 23],
 p 25 (.faddr 3) [.s 4],
 p 26 (.load none) [.s 25],
 p 27 (.bin .neq) [.s 24, .s 26],
 p 22 .mv [.s 27]])
 (.cond (.s 22) (.reg [
 p 8 .mv [.c (.int .i64 7)]])
 .skip)))))
 (.seq (.reg [
 p 28 (.load (some 28)) [.s 6],
 p 29 .mv [.s 7],
 p 30 .mv [.s 8],
  ⟨502, false, .store 28, [.s 6, .s 28], none, [], []⟩,
 p 7 .mv [.s 29],
 p 8 .mv [.s 30]])
 .ret))))
def F239 : AFun where
  n := 9
  res := [.cell 2 (some 11)]
  code := (.seq (.reg [
 p 2 (.zero [zz, zz, zz, zz, zz, zz, zz, zz, zz, et, ff]) []])
 (.seq (.reg [
 p 4 (.build [zz, zz, zz, zz, zz, zz, zz, zz, zz, et, ff] []) [],
 p 3 (.zero [zz, zz, zz, zz, zz, zz, zz, zz, zz, et, ff]) [],
  ⟨500, false, .store 11, [.s 3, .s 4], none, [], []⟩])
 (.seq (.reg [
 p 5 .mv [.s 0],
 p 6 (.faddr 1) [.s 3],
 p 7 (.iaddrA 8 1) [.s 6, .c zz],
  ⟨501, false, .store 1, [.s 7, .s 5], none, [], []⟩])
 (.seq (.reg [
 p 8 (.load (some 11)) [.s 3],
  ⟨502, false, .store 11, [.s 2, .s 8], none, [], []⟩])
 .ret))))
def F270 : AFun := cloneOf 2 16 [zz, zz]
def F271 : AFun where
  n := 24
  res := [.tmp 6]
  code := (.seq (.reg [
 p 6 .mv [.c ff]])
 (.seq (.reg [
 p 7 .mv [.s 0],
 p 8 .mv [.s 1],
 p 9 (.call 286) [.s 7, .s 8],
 p 10 .mv [.s 9],
  ⟨11, true, .mv, [.s 2], (some (10, true)), [], []⟩,
  ⟨12, true, .bin .geq, [.s 11, .c zz], (some (10, true)), [], []⟩,
 p 13 .pick [.s 10, .s 12, .c ff],
 p 14 .mv [.s 13],
  ⟨15, true, .mv, [.s 0], (some (14, true)), [], []⟩,
  ⟨16, true, .mv, [.s 1], (some (14, true)), [], []⟩,
  ⟨17, true, .iaddr 2, [.s 15, .s 16], (some (14, true)), [], []⟩,
  ⟨18, true, .faddr 1, [.s 17], (some (14, true)), [], []⟩,
  ⟨19, true, .load none, [.s 18], (some (14, true)), [], []⟩,
  ⟨20, true, .mv, [.s 2], (some (14, true)), [], []⟩,
  ⟨21, true, .bin .add, [.s 20, .c (.int .i64 1)], (some (14, true)), [], []⟩,
  ⟨22, true, .bin .eql, [.s 19, .s 21], (some (14, true)), [], []⟩,
 p 23 .pick [.s 14, .s 22, .c ff],
 p 6 .mv [.s 23]])
 .ret))
def F274 : AFun where
  n := 19
  res := [.tmp 4]
  code := (.seq (.reg [
 p 4 .mv [.c zz]])
 (.seq (.seq (.reg [
 p 6 .mv [.s 0],
 p 7 .len [.s 6],
 p 8 .mv [.c zz]])
 (.block 0 (.loop (.seq (.reg [
 p 9 (.bin .lss) [.s 8, .s 7]])
 (.seq (.cond (.s 9) .skip
 (.exit 0))
 (.seq (.block 1 (.seq (.reg [
 p 10 .mv [.s 8],
 p 5 .mv [.s 10]])
 (.seq (.reg [
 p 11 .mv [.s 1],
 p 12 .mv [.s 0],
 p 13 .mv [.s 5],
 p 14 (.iaddr 1) [.s 12, .s 13],
 p 15 (.load none) [.s 14],
 p 16 .callv [.s 11, .s 15]])
 (.cond (.s 16) (.seq (.reg [
 p 17 .mv [.s 5],
 p 4 .mv [.s 17]])
 .ret)
 .skip))))
 (.reg [
 p 18 (.bin .add) [.s 8, .c (.int .i64 1)],
 p 8 .mv [.s 18]])))))))
 (.seq (.reg [
 p 4 .mv [.c (.int .i64 (-1))]])
 .ret)))
def F281 : AFun where
  n := 16
  res := [.cell 2 (some 28)]
  code := (.seq (.reg [
 p 1 (.box 28) [.s 0],
 p 2 (.zero [zz, zz, zz, zz, zz, zz, zz, zz, zz, zz, zz, zz, zz, et, ff, zz, zz, zz, zz, zz, zz, zz, zz, zz, et, ff, et, ff]) []])
 (.seq (.drw [
 p 3 (.faddr 4) [.s 1],
  ⟨4, true, .load (some 11), [.s 3], none, [1], []⟩,
  ⟨5, true, .call 284, [.s 4], none, [5, 8, 11], [5, 8, 11]⟩,
 p 6 (.faddr 15) [.s 1],
  ⟨7, true, .load (some 11), [.s 6], none, [1], []⟩,
  ⟨8, true, .call 284, [.s 7], none, [5, 8, 11], [5, 8, 11]⟩,
 p 9 (.faddr 26) [.s 1],
  ⟨10, true, .load none, [.s 9], none, [1], []⟩,
  ⟨11, true, .call 137, [.s 10], none, [5, 8, 11], [5, 8, 11]⟩,
 p 12 (.faddr 4) [.s 1],
  ⟨500, false, .store 11, [.s 12, .s 5], none, [1, 5], [1]⟩,
 p 13 (.faddr 15) [.s 1],
  ⟨501, false, .store 11, [.s 13, .s 8], none, [1, 8], [1]⟩,
 p 14 (.faddr 26) [.s 1],
  ⟨502, false, .store 1, [.s 14, .s 11], none, [1, 11], [1]⟩])
 (.seq (.reg [
 p 15 (.load (some 28)) [.s 1],
  ⟨503, false, .store 28, [.s 2, .s 15], none, [], []⟩])
 .ret)))
def F284 : AFun where
  n := 8
  res := [.cell 2 (some 11)]
  code := (.seq (.reg [
 p 1 (.box 11) [.s 0],
 p 2 (.zero [zz, zz, zz, zz, zz, zz, zz, zz, zz, et, ff]) []])
 (.seq (.reg [
 p 3 (.faddr 9) [.s 1],
 p 4 (.load none) [.s 3],
 p 5 (.call 136) [.s 4],
 p 6 (.faddr 9) [.s 1],
  ⟨500, false, .store 1, [.s 6, .s 5], none, [], []⟩])
 (.seq (.reg [
 p 7 (.load (some 11)) [.s 1],
  ⟨501, false, .store 11, [.s 2, .s 7], none, [], []⟩])
 .ret)))
def F286 : AFun where
  n := 13
  res := [.tmp 4]
  code := (.seq (.reg [
 p 4 .mv [.c ff]])
 (.seq (.reg [
 p 5 .mv [.s 1],
 p 6 (.bin .geq) [.s 5, .c zz],
 p 7 .mv [.s 6],
  ⟨8, true, .mv, [.s 1], (some (7, true)), [], []⟩,
  ⟨9, true, .mv, [.s 0], (some (7, true)), [], []⟩,
  ⟨10, true, .len, [.s 9], (some (7, true)), [], []⟩,
  ⟨11, true, .bin .lss, [.s 8, .s 10], (some (7, true)), [], []⟩,
 p 12 .pick [.s 7, .s 11, .c ff],
 p 4 .mv [.s 12]])
 .ret))
def F288 : AFun where
  n := 33
  res := [.cell 4 (some 28)]
  code := (.seq (.reg [
 p 2 (.box 6) [.s 0],
 p 3 (.box 28) [.s 1],
 p 4 (.zero [zz, zz, zz, zz, zz, zz, zz, zz, zz, zz, zz, zz, zz, et, ff, zz, zz, zz, zz, zz, zz, zz, zz, zz, et, ff, et, ff]) []])
 (.seq (.reg [
 p 6 (.load (some 28)) [.s 3],
 p 7 (.call 281) [.s 6],
 p 5 (.zero [zz, zz, zz, zz, zz, zz, zz, zz, zz, zz, zz, zz, zz, et, ff, zz, zz, zz, zz, zz, zz, zz, zz, zz, et, ff, et, ff]) [],
  ⟨500, false, .store 28, [.s 5, .s 7], none, [], []⟩])
 (.seq (.reg [
 p 8 (.faddr 26) [.s 5],
  ⟨501, false, .store 1, [.s 8, .c et], none, [], []⟩])
 (.seq (.seq (.reg [
 p 9 (.faddr 3) [.s 3],
 p 10 (.load none) [.s 9],
 p 11 (.bin .eql) [.s 10, .c zz],
 p 12 .mv [.s 11],
  ⟨13, true, .faddr 4, [.s 2], (some (12, true)), [], []⟩,
  ⟨14, true, .load none, [.s 13], (some (12, true)), [], []⟩,
  ⟨15, true, .len, [.s 14], (some (12, true)), [], []⟩,
  ⟨16, true, .bin .gtr, [.s 15, .c zz], (some (12, true)), [], []⟩,
 p 17 .pick [.s 12, .s 16, .c ff]])
 (.cond (.s 17) (.seq (.drw [
 p 18 (.faddr 2) [.s 3],
  ⟨19, true, .load none, [.s 18], none, [3], []⟩,
 p 20 (.call 155) [.s 19],
 p 21 (.faddr 2) [.s 3],
  ⟨22, true, .load none, [.s 21], none, [3], []⟩,
 p 23 (.call 155) [.s 22],
 p 24 (.faddr 3) [.s 5],
  ⟨502, false, .store 1, [.s 24, .c (.int .i64 1)], none, [5], [5]⟩,
 p 25 (.faddr 4) [.s 5],
  ⟨503, false, .store 11, [.s 25, .s 20], none, [5, 20], [5]⟩,
 p 26 (.faddr 15) [.s 5],
  ⟨504, false, .store 11, [.s 26, .s 23], none, [5, 23], [5]⟩])
 (.seq (.reg [
 p 27 (.load (some 28)) [.s 5],
  ⟨505, false, .store 28, [.s 4, .s 27], none, [], []⟩])
 .ret))
 .skip))
 (.seq (.reg [
 p 28 (.faddr 15) [.s 3],
 p 29 (.load (some 11)) [.s 28],
 p 30 (.call 284) [.s 29],
 p 31 (.faddr 4) [.s 5],
  ⟨506, false, .store 11, [.s 31, .s 30], none, [], []⟩])
 (.seq (.reg [
 p 32 (.load (some 28)) [.s 5],
  ⟨507, false, .store 28, [.s 4, .s 32], none, [], []⟩])
 .ret))))))
def F1000 : AFun where
  n := 135
  res := [.tmp 8]
  code := (.seq (.reg [
 p 8 .mv [.c ff]])
 (.seq (.seq (.reg [
 p 16 (.call 1004) [],
 p 17 (.un .not) [.s 16]])
 (.cond (.s 17) (.seq (.reg [
 p 8 .mv [.c ff]])
 .ret)
 .skip))
 (.seq (.seq (.reg [
 p 18 .mv [.s 2],
 p 19 .len [.s 18],
 p 20 (.bin .gtr) [.s 19, .c (.int .i64 6)],
 p 21 .mv [.s 20],
  ⟨22, true, .mv, [.s 3], (some (21, false)), [], []⟩,
  ⟨23, true, .len, [.s 22], (some (21, false)), [], []⟩,
  ⟨24, true, .bin .gtr, [.s 23, .c (.int .i64 6)], (some (21, false)), [], []⟩,
 p 25 .pick [.s 21, .c (.bool true), .s 24]])
 (.cond (.s 25) (.seq (.reg [
 p 8 .mv [.c (.bool true)]])
 .ret)
 .skip))
 (.seq (.reg [
 p 26 .mv [.s 0],
 p 27 (.bin .rem) [.s 26, .c (.int .u8 8)],
 p 28 (.conv .i64) [.s 27],
 p 29 (.call 170) [.s 28, .c (.int .i64 3), .c (.int .i64 9)],
 p 9 (.zero [zz, zz, zz, zz, zz, zz, zz, zz, zz, zz, zz, zz, zz, et, ff, zz, zz, zz, zz, zz, zz, zz, zz, zz, et, ff, et, ff]) [],
  ⟨500, false, .store 28, [.s 9, .s 29], none, [], []⟩])
 (.seq (.reg [
 p 30 .mv [.s 1],
 p 31 (.bin .rem) [.s 30, .c (.int .u8 3)],
 p 32 (.conv .i64) [.s 31],
 p 33 (.faddr 3) [.s 9],
  ⟨501, false, .store 1, [.s 33, .s 32], none, [], []⟩])
 (.seq (.seq (.reg [
 p 10 .mv [.c zz]])
 (.block 0 (.loop (.seq (.seq (.reg [
 p 34 .mv [.s 10],
 p 35 .mv [.s 2],
 p 36 .len [.s 35],
 p 37 (.bin .lss) [.s 34, .s 36]])
 (.cond (.s 37) .skip
 (.exit 0)))
 (.seq (.block 1 (.drw [
 p 40 (.faddr 26) [.s 9],
  ⟨41, true, .load none, [.s 40], none, [9], []⟩,
 p 42 .mv [.s 2],
 p 43 .mv [.s 10],
 p 44 (.iaddr 1) [.s 42, .s 43],
 p 45 (.load none) [.s 44],
 p 46 (.bin .rem) [.s 45, .c (.int .u8 6)],
 p 47 (.conv .i64) [.s 46],
 p 48 (.buildSl 1 [zz] 1 [0]) [.s 47],
  ⟨49, true, .app 1 8 [zz], [.s 41, .s 48], none, [29, 48, 49], [29, 48, 49]⟩,
 p 50 (.faddr 26) [.s 9],
  ⟨502, false, .store 1, [.s 50, .s 49], none, [9, 29, 48, 49], [9]⟩]))
 (.reg [
 p 38 .mv [.s 10],
 p 39 (.bin .add) [.s 38, .c (.int .i64 1)],
 p 10 .mv [.s 39]]))))))
 (.seq (.reg [
 p 52 (.build [zz, zz, zz, zz] [(0, 1)]) [.c zz],
 p 53 (.buildSl 4 [zz, zz, zz, zz] 1 [0]) [.s 52],
 p 54 (.build [zz, zz, zz, et, et, et] [(3, 1)]) [.s 53],
 p 55 (.load (some 28)) [.s 9],
 p 56 .mv [.s 3],
 p 57 (.call 228) [.s 54, .s 55, .s 56],
 p 51 .mv [.s 57],
 p 58 (.extract 0) [.s 51],
 p 59 (.extract 1) [.s 51],
 p 60 (.extract 2) [.s 51],
 p 11 (.zero [zz, zz, zz, zz, zz, zz, zz, zz, zz, zz, zz, zz, zz, et, ff, zz, zz, zz, zz, zz, zz, zz, zz, zz, et, ff, et, ff]) [],
  ⟨503, false, .store 28, [.s 11, .s 58], none, [], []⟩,
 p 12 .mv [.s 59],
 p 13 .mv [.s 60]])
 (.seq (.seq (.reg [
 p 61 .mv [.s 12],
 p 62 .len [.s 61],
 p 63 .mv [.s 3],
 p 64 .len [.s 63],
 p 65 (.bin .neq) [.s 62, .s 64],
 p 66 .mv [.s 65],
  ⟨67, true, .faddr 0, [.s 11], (some (66, false)), [], []⟩,
  ⟨68, true, .load none, [.s 67], (some (66, false)), [], []⟩,
  ⟨69, true, .faddr 0, [.s 9], (some (66, false)), [], []⟩,
  ⟨70, true, .load none, [.s 69], (some (66, false)), [], []⟩,
  ⟨71, true, .bin .neq, [.s 68, .s 70], (some (66, false)), [], []⟩,
 p 72 .pick [.s 66, .c (.bool true), .s 71],
 p 73 .mv [.s 72],
  ⟨74, true, .faddr 1, [.s 11], (some (73, false)), [], []⟩,
  ⟨75, true, .load none, [.s 74], (some (73, false)), [], []⟩,
  ⟨76, true, .bin .neq, [.s 75, .c (.int .i64 3)], (some (73, false)), [], []⟩,
 p 77 .pick [.s 73, .c (.bool true), .s 76],
 p 78 .mv [.s 77],
  ⟨79, true, .faddr 2, [.s 11], (some (78, false)), [], []⟩,
  ⟨80, true, .load none, [.s 79], (some (78, false)), [], []⟩,
  ⟨81, true, .bin .neq, [.s 80, .c (.int .i64 9)], (some (78, false)), [], []⟩,
 p 82 .pick [.s 78, .c (.bool true), .s 81]])
 (.cond (.s 82) (.seq (.reg [
 p 8 .mv [.c ff]])
 .ret)
 .skip))
 (.seq (.seq (.reg [
 p 14 .mv [.c zz]])
 (.block 2 (.loop (.seq (.seq (.reg [
 p 83 .mv [.s 14],
 p 84 .mv [.s 3],
 p 85 .len [.s 84],
 p 86 (.bin .lss) [.s 83, .s 85]])
 (.cond (.s 86) .skip
 (.exit 2)))
 (.seq (.block 3 (.seq (.drw [
 p 89 .mv [.s 3],
 p 90 .mv [.s 14],
 p 91 (.iaddr 2) [.s 89, .s 90],
 p 92 (.faddr 1) [.s 91],
 p 93 (.load none) [.s 92],
 p 94 (.faddr 0) [.s 9],
  ⟨95, true, .load none, [.s 94], none, [9], []⟩,
 p 96 (.bin .add) [.s 95, .c (.int .i64 1)],
 p 97 (.bin .eql) [.s 93, .s 96],
 p 15 .mv [.s 97]])
 (.seq (.drw [
 p 98 .mv [.s 12],
 p 99 .mv [.s 14],
  ⟨100, true, .iaddr 2, [.s 98, .s 99], none, [57], []⟩,
 p 101 (.faddr 0) [.s 100],
  ⟨102, true, .load none, [.s 101], none, [57], []⟩,
 p 103 .mv [.s 3],
 p 104 .mv [.s 14],
 p 105 (.iaddr 2) [.s 103, .s 104],
 p 106 (.faddr 0) [.s 105],
 p 107 (.load none) [.s 106],
 p 108 (.bin .neq) [.s 102, .s 107],
 p 109 .mv [.s 108],
  ⟨110, true, .mv, [.s 15], (some (109, false)), [], []⟩,
  ⟨111, true, .mv, [.s 110], (some (109, false)), [], []⟩,
  ⟨112, true, .mv, [.s 12], (some (111, true)), [], []⟩,
  ⟨113, true, .mv, [.s 14], (some (111, true)), [], []⟩,
  ⟨114, true, .iaddr 2, [.s 112, .s 113], (some (111, true)), [57], []⟩,
  ⟨115, true, .faddr 1, [.s 114], (some (111, true)), [], []⟩,
  ⟨116, true, .load none, [.s 115], (some (111, true)), [57], []⟩,
  ⟨117, true, .bin .neq, [.s 116, .c zz], (some (111, true)), [], []⟩,
  ⟨118, true, .pick, [.s 111, .s 117, .c ff], (some (109, false)), [], []⟩,
 p 119 .pick [.s 109, .c (.bool true), .s 118],
 p 120 .mv [.s 119],
  ⟨121, true, .mv, [.s 15], (some (120, false)), [], []⟩,
  ⟨122, true, .un .not, [.s 121], (some (120, false)), [], []⟩,
  ⟨123, true, .mv, [.s 122], (some (120, false)), [], []⟩,
  ⟨124, true, .mv, [.s 12], (some (123, true)), [], []⟩,
  ⟨125, true, .mv, [.s 14], (some (123, true)), [], []⟩,
  ⟨126, true, .iaddr 2, [.s 124, .s 125], (some (123, true)), [57], []⟩,
  ⟨127, true, .load (some 2), [.s 126], (some (123, true)), [57], []⟩,
  ⟨128, true, .mv, [.s 3], (some (123, true)), [], []⟩,
  ⟨129, true, .mv, [.s 14], (some (123, true)), [], []⟩,
  ⟨130, true, .iaddr 2, [.s 128, .s 129], (some (123, true)), [], []⟩,
  ⟨131, true, .load (some 2), [.s 130], (some (123, true)), [], []⟩,
  ⟨132, true, .eqv true [some .i64, some .i64] true, [.s 127, .s 131], (some (123, true)), [], []⟩,
  ⟨133, true, .pick, [.s 123, .s 132, .c ff], (some (120, false)), [], []⟩,
 p 134 .pick [.s 120, .c (.bool true), .s 133]])
 (.cond (.s 134) (.seq (.reg [
 p 8 .mv [.c ff]])
 .ret)
 .skip))))
 (.reg [
 p 87 .mv [.s 14],
 p 88 (.bin .add) [.s 87, .c (.int .i64 1)],
 p 14 .mv [.s 88]]))))))
 (.seq (.reg [
 p 8 .mv [.c (.bool true)]])
 .ret))))))))))
def F1004 : AFun where
  n := 69
  res := [.tmp 0]
  code := (.seq (.reg [
 p 0 .mv [.c ff]])
 (.seq (.reg [
 p 9 (.build [zz, zz, zz, zz] [(0, 1)]) [.c zz],
 p 10 (.buildSl 4 [zz, zz, zz, zz] 1 [0]) [.s 9],
 p 11 (.build [zz, zz, zz, zz] [(0, 1)]) [.c zz],
 p 12 (.buildSl 4 [zz, zz, zz, zz] 1 [0]) [.s 11],
 p 13 (.build [zz, zz, zz, et, et, et] [(3, 1), (4, 1)]) [.s 10, .s 12],
 p 1 (.zero [zz, zz, zz, et, et, et]) [],
  ⟨500, false, .store 6, [.s 1, .s 13], none, [], []⟩])
 (.seq (.reg [
 p 14 (.call 170) [.c (.int .i64 1), .c zz, .c (.int .i64 7)],
 p 2 (.zero [zz, zz, zz, zz, zz, zz, zz, zz, zz, zz, zz, zz, zz, et, ff, zz, zz, zz, zz, zz, zz, zz, zz, zz, et, ff, et, ff]) [],
  ⟨501, false, .store 28, [.s 2, .s 14], none, [], []⟩])
 (.seq (.reg [
 p 15 (.buildSl 1 [zz] 1 [0]) [.c zz],
 p 16 (.faddr 26) [.s 2],
  ⟨502, false, .store 1, [.s 16, .s 15], none, [], []⟩])
 (.seq (.reg [
 p 18 (.load (some 6)) [.s 1],
 p 19 (.load (some 28)) [.s 2],
 p 20 (.build [zz, zz] [(1, 1)]) [.c (.int .i64 2)],
 p 21 (.buildSl 2 [zz, zz] 1 [0]) [.s 20],
 p 22 (.call 228) [.s 18, .s 19, .s 21],
 p 17 .mv [.s 22],
 p 23 (.extract 0) [.s 17],
 p 24 (.extract 1) [.s 17],
 p 25 (.extract 2) [.s 17],
 p 3 (.zero [zz, zz, zz, zz, zz, zz, zz, zz, zz, zz, zz, zz, zz, et, ff, zz, zz, zz, zz, zz, zz, zz, zz, zz, et, ff, et, ff]) [],
  ⟨503, false, .store 28, [.s 3, .s 23], none, [], []⟩,
 p 4 .mv [.s 24],
 p 5 .mv [.s 25]])
 (.seq (.reg [
 p 27 (.load (some 6)) [.s 1],
 p 28 (.load (some 28)) [.s 3],
 p 29 (.call 228) [.s 27, .s 28, .c et],
 p 26 .mv [.s 29],
 p 30 (.extract 0) [.s 26],
 p 31 (.extract 1) [.s 26],
 p 32 (.extract 2) [.s 26],
 p 6 (.zero [zz, zz, zz, zz, zz, zz, zz, zz, zz, zz, zz, zz, zz, et, ff, zz, zz, zz, zz, zz, zz, zz, zz, zz, et, ff, et, ff]) [],
  ⟨504, false, .store 28, [.s 6, .s 30], none, [], []⟩,
 p 7 .mv [.s 31],
 p 8 .mv [.s 32]])
 (.seq (.reg [
 p 33 .mv [.s 5],
 p 34 (.bin .eql) [.s 33, .c (.int .i64 7)],
 p 35 .mv [.s 34],
  ⟨36, true, .faddr 3, [.s 3], (some (35, true)), [], []⟩,
  ⟨37, true, .load none, [.s 36], (some (35, true)), [], []⟩,
  ⟨38, true, .bin .eql, [.s 37, .c (.int .i64 1)], (some (35, true)), [], []⟩,
 p 39 .pick [.s 35, .s 38, .c ff],
 p 40 .mv [.s 39],
  ⟨41, true, .faddr 26, [.s 3], (some (40, true)), [], []⟩,
  ⟨42, true, .load none, [.s 41], (some (40, true)), [], []⟩,
  ⟨43, true, .len, [.s 42], (some (40, true)), [], []⟩,
  ⟨44, true, .bin .eql, [.s 43, .c zz], (some (40, true)), [], []⟩,
 p 45 .pick [.s 40, .s 44, .c ff],
 p 46 .mv [.s 45],
  ⟨47, true, .mv, [.s 4], (some (46, true)), [], []⟩,
  ⟨48, true, .len, [.s 47], (some (46, true)), [], []⟩,
  ⟨49, true, .bin .eql, [.s 48, .c (.int .i64 1)], (some (46, true)), [], []⟩,
 p 50 .pick [.s 46, .s 49, .c ff],
 p 51 .mv [.s 50],
  ⟨52, true, .mv, [.s 4], (some (51, true)), [], []⟩,
  ⟨53, true, .iaddr 2, [.s 52, .c zz], (some (51, true)), [], []⟩,
  ⟨54, true, .faddr 1, [.s 53], (some (51, true)), [], []⟩,
  ⟨55, true, .load none, [.s 54], (some (51, true)), [], []⟩,
  ⟨56, true, .bin .eql, [.s 55, .c zz], (some (51, true)), [], []⟩,
 p 57 .pick [.s 51, .s 56, .c ff],
 p 58 .mv [.s 57],
  ⟨59, true, .mv, [.s 8], (some (58, true)), [], []⟩,
  ⟨60, true, .bin .eql, [.s 59, .c (.int .i64 6)], (some (58, true)), [], []⟩,
 p 61 .pick [.s 58, .s 60, .c ff],
 p 62 .mv [.s 61],
  ⟨63, true, .load (some 28), [.s 2], (some (62, true)), [], []⟩,
  ⟨64, true, .call 144, [.s 63, .c zz], (some (62, true)), [], []⟩,
  ⟨65, true, .field 26 none, [.s 64], (some (62, true)), [], []⟩,
  ⟨66, true, .len, [.s 65], (some (62, true)), [], []⟩,
  ⟨67, true, .bin .eql, [.s 66, .c zz], (some (62, true)), [], []⟩,
 p 68 .pick [.s 62, .s 67, .c ff],
 p 0 .mv [.s 68]])
 .ret)))))))
def modeL : List (Nat × List Mode) := [(219, [.give, .lend])]
def modes (f : Nat) : List Mode := (modeL.lookup f).getD []
@[simp] theorem m136 : modes 136 = [] := rfl
@[simp] theorem m137 : modes 137 = [] := rfl
@[simp] theorem m144 : modes 144 = [] := rfl
@[simp] theorem m155 : modes 155 = [] := rfl
@[simp] theorem m170 : modes 170 = [] := rfl
@[simp] theorem m216 : modes 216 = [] := rfl
@[simp] theorem m218 : modes 218 = [] := rfl
@[simp] theorem m219 : modes 219 = [.give, .lend] := rfl
@[simp] theorem m220 : modes 220 = [] := rfl
@[simp] theorem m228 : modes 228 = [] := rfl
@[simp] theorem m239 : modes 239 = [] := rfl
@[simp] theorem m270 : modes 270 = [] := rfl
@[simp] theorem m271 : modes 271 = [] := rfl
@[simp] theorem m274 : modes 274 = [] := rfl
@[simp] theorem m281 : modes 281 = [] := rfl
@[simp] theorem m284 : modes 284 = [] := rfl
@[simp] theorem m286 : modes 286 = [] := rfl
@[simp] theorem m288 : modes 288 = [] := rfl
@[simp] theorem m1000 : modes 1000 = [] := rfl
@[simp] theorem m1004 : modes 1004 = [] := rfl
def funs : Nat → Option (AFun × Bool)
  | 144 => some (F144, false)
  | 155 => some (F155, false)
  | 170 => some (F170, true)
  | 216 => some (F216, false)
  | 218 => some (F218, true)
  | 219 => some (F219, true)
  | 220 => some (F220, true)
  | 228 => some (F228, false)
  | 239 => some (F239, true)
  | 271 => some (F271, true)
  | 274 => some (F274, true)
  | 281 => some (F281, true)
  | 284 => some (F284, false)
  | 286 => some (F286, true)
  | 288 => some (F288, false)
  | 1000 => some (F1000, true)
  | 1004 => some (F1004, true)
  | _ => none
def clones : Nat → Option (Nat × Nat × List V)
  | 136 => some (3, 24, [(.int .i64 0), (.int .i64 0), (.int .i64 0)])
  | 137 => some (1, 8, [(.int .i64 0)])
  | 270 => some (2, 16, [(.int .i64 0), (.int .i64 0)])
  | _ => none
def prims : CallF := cloneP clones
def A : Abi := ⟨modes, []⟩
noncomputable def C : CallF := cw A funs prims
@[simp] theorem A_modes (f : Nat) : A.modes f = modes f := rfl
@[simp] theorem A_fx : A.fx = [] := rfl
theorem c_eq {f : Nat} {F : AFun} {gv : Bool} {args : List V} {r : V × List (List V)} (hp : prims f args = none) (hf : funs f = some (F, gv)) (hl : Nat.ble args.length F.n = true)
    (h : Wp A C F.code (enter args) (finK F.res gv args (fun x => x = r))) : C f args = some r := cw_eq hp hf hl h
theorem c_ex {f : Nat} {F : AFun} {gv : Bool} {args : List V} {R : V × List (List V) → Prop} (hp : prims f args = none) (hf : funs f = some (F, gv)) (hl : Nat.ble args.length F.n = true)
    (h : Wp A C F.code (enter args) (finK F.res gv args R)) : ∃ r, C f args = some r ∧ R r := cw_wp hp hf (Nat.le_of_ble_eq_true hl) h
theorem c_prim {f : Nat} {args : List V} {r : V × List (List V)} (hp : prims f args = some r) : C f args = some r := cw_prim hp
theorem c_clone {f n b : Nat} {z : List V} (hc : clones f = some (n, b, z)) {rows : List (List V)} (hz : z.length = n ∧ b ≤ 4096 ∧ z.all V.one = true) (hr : ∀ r ∈ rows, r.length = n) (hl : rows.length ≤ 1000000) : C f [.sl rows] = some (.fresh rows, []) := by
  refine c_prim ?_
  simp only [prims, cloneP, hc]
  rw [if_pos ⟨hz.1, hz.2.1, hz.2.2, by simpa using hr, by unfold room; omega⟩]
theorem cl136 (rows : List (List V)) (hr : ∀ r ∈ rows, r.length = 3) (hl : rows.length ≤ 1000000) : C 136 [.sl rows] = some (.fresh rows, []) := c_clone (show clones 136 = some (3, 24, [(.int .i64 0), (.int .i64 0), (.int .i64 0)]) from rfl) ⟨rfl, by decide, rfl⟩ hr hl
theorem cl137 (rows : List (List V)) (hr : ∀ r ∈ rows, r.length = 1) (hl : rows.length ≤ 1000000) : C 137 [.sl rows] = some (.fresh rows, []) := c_clone (show clones 137 = some (1, 8, [(.int .i64 0)]) from rfl) ⟨rfl, by decide, rfl⟩ hr hl
theorem cl270 (rows : List (List V)) (hr : ∀ r ∈ rows, r.length = 2) (hl : rows.length ≤ 1000000) : C 270 [.sl rows] = some (.fresh rows, []) := c_clone (show clones 270 = some (2, 16, [(.int .i64 0), (.int .i64 0)]) from rfl) ⟨rfl, by decide, rfl⟩ hr hl
end Fo.W
