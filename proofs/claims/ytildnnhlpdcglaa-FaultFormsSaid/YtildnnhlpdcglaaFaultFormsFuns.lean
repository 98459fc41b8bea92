/-
  The functions that FaultForms reaches, as the frame's own machine has them; each is looked at by the kernel.
-/
import Derived.Test.YtildnnhlpdcglaaFoA30
import Derived.Test.YtildnnhlpdcglaaFoA36
import Derived.Test.YtildnnhlpdcglaaProg
set_option maxRecDepth 100000
namespace Fo.Try
open Go Go.Proofs
def F60 : AFun where
  n := 59
  res := [.tmp 4]
  code := (.seq (.reg [
  ⟨2, true, .box 28, [.s 0], none, [], []⟩,
  ⟨3, true, .box 28, [.s 1], none, [], []⟩,
  ⟨4, true, .mv, [.c (.bool false)], none, [], []⟩])
 (.seq (.reg [
  ⟨5, true, .faddr 0, [.s 2], none, [], []⟩,
  ⟨6, true, .load none, [.s 5], none, [], []⟩,
  ⟨7, true, .faddr 0, [.s 3], none, [], []⟩,
  ⟨8, true, .load none, [.s 7], none, [], []⟩,
  ⟨9, true, .bin .eql, [.s 6, .s 8], none, [], []⟩,
  ⟨10, true, .mv, [.s 9], none, [], []⟩,
  ⟨11, true, .faddr 1, [.s 2], (some (10, true)), [], []⟩,
  ⟨12, true, .load none, [.s 11], (some (10, true)), [], []⟩,
  ⟨13, true, .faddr 1, [.s 3], (some (10, true)), [], []⟩,
  ⟨14, true, .load none, [.s 13], (some (10, true)), [], []⟩,
  ⟨15, true, .bin .eql, [.s 12, .s 14], (some (10, true)), [], []⟩,
  ⟨16, true, .pick, [.s 10, .s 15, .c (.bool false)], none, [], []⟩,
  ⟨17, true, .mv, [.s 16], none, [], []⟩,
  ⟨18, true, .faddr 2, [.s 2], (some (17, true)), [], []⟩,
  ⟨19, true, .load none, [.s 18], (some (17, true)), [], []⟩,
  ⟨20, true, .faddr 2, [.s 3], (some (17, true)), [], []⟩,
  ⟨21, true, .load none, [.s 20], (some (17, true)), [], []⟩,
  ⟨22, true, .bin .eql, [.s 19, .s 21], (some (17, true)), [], []⟩,
  ⟨23, true, .pick, [.s 17, .s 22, .c (.bool false)], none, [], []⟩,
  ⟨24, true, .mv, [.s 23], none, [], []⟩,
  ⟨25, true, .faddr 3, [.s 2], (some (24, true)), [], []⟩,
  ⟨26, true, .load none, [.s 25], (some (24, true)), [], []⟩,
  ⟨27, true, .faddr 3, [.s 3], (some (24, true)), [], []⟩,
  ⟨28, true, .load none, [.s 27], (some (24, true)), [], []⟩,
  ⟨29, true, .bin .eql, [.s 26, .s 28], (some (24, true)), [], []⟩,
  ⟨30, true, .pick, [.s 24, .s 29, .c (.bool false)], none, [], []⟩,
  ⟨31, true, .mv, [.s 30], none, [], []⟩,
  ⟨32, true, .faddr 27, [.s 2], (some (31, true)), [], []⟩,
  ⟨33, true, .load none, [.s 32], (some (31, true)), [], []⟩,
  ⟨34, true, .faddr 27, [.s 3], (some (31, true)), [], []⟩,
  ⟨35, true, .load none, [.s 34], (some (31, true)), [], []⟩,
  ⟨36, true, .eqv false [none] false, [.s 33, .s 35], (some (31, true)), [], []⟩,
  ⟨37, true, .pick, [.s 31, .s 36, .c (.bool false)], none, [], []⟩,
  ⟨38, true, .mv, [.s 37], none, [], []⟩,
  ⟨39, true, .faddr 4, [.s 2], (some (38, true)), [], []⟩,
  ⟨40, true, .load (some 11), [.s 39], (some (38, true)), [], []⟩,
  ⟨41, true, .faddr 4, [.s 3], (some (38, true)), [], []⟩,
  ⟨42, true, .load (some 11), [.s 41], (some (38, true)), [], []⟩,
  ⟨43, true, .call 114, [.s 40, .s 42], (some (38, true)), [], []⟩,
  ⟨44, true, .pick, [.s 38, .s 43, .c (.bool false)], none, [], []⟩,
  ⟨45, true, .mv, [.s 44], none, [], []⟩,
  ⟨46, true, .faddr 15, [.s 2], (some (45, true)), [], []⟩,
  ⟨47, true, .load (some 11), [.s 46], (some (45, true)), [], []⟩,
  ⟨48, true, .faddr 15, [.s 3], (some (45, true)), [], []⟩,
  ⟨49, true, .load (some 11), [.s 48], (some (45, true)), [], []⟩,
  ⟨50, true, .call 114, [.s 47, .s 49], (some (45, true)), [], []⟩,
  ⟨51, true, .pick, [.s 45, .s 50, .c (.bool false)], none, [], []⟩,
  ⟨52, true, .mv, [.s 51], none, [], []⟩,
  ⟨53, true, .faddr 26, [.s 2], (some (52, true)), [], []⟩,
  ⟨54, true, .load none, [.s 53], (some (52, true)), [], []⟩,
  ⟨55, true, .faddr 26, [.s 3], (some (52, true)), [], []⟩,
  ⟨56, true, .load none, [.s 55], (some (52, true)), [], []⟩,
  ⟨57, true, .call 63, [.s 54, .s 56], (some (52, true)), [], []⟩,
  ⟨58, true, .pick, [.s 52, .s 57, .c (.bool false)], none, [], []⟩,
  ⟨4, true, .mv, [.s 58], none, [], []⟩])
 .ret))
def F63 : AFun where
  n := 26
  res := [.tmp 4]
  code := (.seq (.reg [
  ⟨4, true, .mv, [.c (.bool false)], none, [], []⟩])
 (.seq (.seq (.reg [
  ⟨6, true, .mv, [.s 0], none, [], []⟩,
  ⟨7, true, .len, [.s 6], none, [], []⟩,
  ⟨8, true, .mv, [.s 1], none, [], []⟩,
  ⟨9, true, .len, [.s 8], none, [], []⟩,
  ⟨10, true, .bin .neq, [.s 7, .s 9], none, [], []⟩])
 (.cond (.s 10) (.seq (.reg [
  ⟨4, true, .mv, [.c (.bool false)], none, [], []⟩])
 .ret)
 .skip))
 (.seq (.seq (.reg [
  ⟨5, true, .mv, [.c (.int .i64 0)], none, [], []⟩])
 (.block 0 (.loop (.seq (.seq (.reg [
  ⟨11, true, .mv, [.s 5], none, [], []⟩,
  ⟨12, true, .mv, [.s 0], none, [], []⟩,
  ⟨13, true, .len, [.s 12], none, [], []⟩,
  ⟨14, true, .bin .lss, [.s 11, .s 13], none, [], []⟩])
 (.cond (.s 14) .skip
 (.exit 0)))
 (.seq (.block 1 (.seq (.drw [
  ⟨17, true, .mv, [.s 0], none, [], []⟩,
  ⟨18, true, .mv, [.s 5], none, [], []⟩,
  ⟨19, true, .iaddr 1, [.s 17, .s 18], none, [], []⟩,
  ⟨20, true, .load none, [.s 19], none, [], []⟩,
  ⟨21, true, .mv, [.s 1], none, [], []⟩,
  ⟨22, true, .mv, [.s 5], none, [], []⟩,
  ⟨23, true, .iaddr 1, [.s 21, .s 22], none, [], []⟩,
  ⟨24, true, .load none, [.s 23], none, [], []⟩,
  ⟨25, true, .bin .neq, [.s 20, .s 24], none, [], []⟩])
 (.cond (.s 25) (.seq (.reg [
  ⟨4, true, .mv, [.c (.bool false)], none, [], []⟩])
 .ret)
 .skip)))
 (.reg [
  ⟨15, true, .mv, [.s 5], none, [], []⟩,
  ⟨16, true, .bin .add, [.s 15, .c (.int .i64 1)], none, [], []⟩,
  ⟨5, true, .mv, [.s 16], none, [], []⟩]))))))
 (.seq (.reg [
  ⟨4, true, .mv, [.c (.bool true)], none, [], []⟩])
 .ret))))
def F94 : AFun where
  n := 172
  res := [.tmp 2]
  code := (.seq (.reg [
  ⟨1, true, .box 4, [.s 0], none, [], []⟩,
  ⟨2, true, .mv, [.c (.bool false)], none, [], []⟩])
 (.seq (.reg [
  ⟨4, true, .build [(.int .i64 0)] [(0, 1)], [.c (.int .i64 8)], none, [], []⟩,
  ⟨3, true, .zero [(.int .i64 0)], [], none, [], []⟩,
  ⟨500, false, .store 1, [.s 3, .s 4], none, [], []⟩])
 (.seq (.seq (.reg [
  ⟨5, true, .faddr 0, [.s 1], none, [], []⟩,
  ⟨6, true, .load none, [.s 5], none, [], []⟩])
 (.block 0 (.seq (.seq (.reg [
  ⟨8, true, .bin .eql, [.s 6, .c (.int .i64 0)], none, [], []⟩,
  ⟨7, true, .mv, [.s 8], none, [], []⟩])
 (.cond (.s 7) .skip
 (.reg [
  ⟨9, true, .bin .eql, [.s 6, .c (.int .i64 11)], none, [], []⟩,
  ⟨7, true, .mv, [.s 9], none, [], []⟩])))
 (.cond (.s 7) (.seq (.reg [
  ⟨10, true, .faddr 1, [.s 1], none, [], []⟩,
  ⟨11, true, .load none, [.s 10], none, [], []⟩,
  ⟨12, true, .bin .eql, [.s 11, .c (.int .i64 0)], none, [], []⟩,
  ⟨13, true, .mv, [.s 12], none, [], []⟩,
  ⟨14, true, .faddr 2, [.s 1], (some (13, true)), [], []⟩,
  ⟨15, true, .load none, [.s 14], (some (13, true)), [], []⟩,
  ⟨16, true, .bin .eql, [.s 15, .c (.int .i64 0)], (some (13, true)), [], []⟩,
  ⟨17, true, .pick, [.s 13, .s 16, .c (.bool false)], none, [], []⟩,
  ⟨18, true, .mv, [.s 17], none, [], []⟩,
  ⟨19, true, .faddr 3, [.s 1], (some (18, true)), [], []⟩,
  ⟨20, true, .load none, [.s 19], (some (18, true)), [], []⟩,
  ⟨21, true, .bin .eql, [.s 20, .c (.int .i64 0)], (some (18, true)), [], []⟩,
  ⟨22, true, .pick, [.s 18, .s 21, .c (.bool false)], none, [], []⟩,
  ⟨2, true, .mv, [.s 22], none, [], []⟩])
 .ret)
 (.seq (.reg [
  ⟨24, true, .bin .eql, [.s 6, .c (.int .i64 1)], none, [], []⟩,
  ⟨23, true, .mv, [.s 24], none, [], []⟩])
 (.cond (.s 23) (.seq (.reg [
  ⟨25, true, .load (some 1), [.s 3], none, [], []⟩,
  ⟨26, true, .faddr 1, [.s 1], none, [], []⟩,
  ⟨27, true, .load none, [.s 26], none, [], []⟩,
  ⟨28, true, .call 158, [.s 25, .s 27], none, [], []⟩,
  ⟨29, true, .mv, [.s 28], none, [], []⟩,
  ⟨30, true, .faddr 2, [.s 1], (some (29, true)), [], []⟩,
  ⟨31, true, .load none, [.s 30], (some (29, true)), [], []⟩,
  ⟨32, true, .bin .eql, [.s 31, .c (.int .i64 0)], (some (29, true)), [], []⟩,
  ⟨33, true, .pick, [.s 29, .s 32, .c (.bool false)], none, [], []⟩,
  ⟨34, true, .mv, [.s 33], none, [], []⟩,
  ⟨35, true, .faddr 3, [.s 1], (some (34, true)), [], []⟩,
  ⟨36, true, .load none, [.s 35], (some (34, true)), [], []⟩,
  ⟨37, true, .bin .geq, [.s 36, .c (.int .i64 (-2147483648))], (some (34, true)), [], []⟩,
  ⟨38, true, .pick, [.s 34, .s 37, .c (.bool false)], none, [], []⟩,
  ⟨39, true, .mv, [.s 38], none, [], []⟩,
  ⟨40, true, .faddr 3, [.s 1], (some (39, true)), [], []⟩,
  ⟨41, true, .load none, [.s 40], (some (39, true)), [], []⟩,
  ⟨42, true, .bin .lss, [.s 41, .c (.int .i64 2147483648)], (some (39, true)), [], []⟩,
  ⟨43, true, .pick, [.s 39, .s 42, .c (.bool false)], none, [], []⟩,
  ⟨2, true, .mv, [.s 43], none, [], []⟩])
 .ret)
 (.seq (.seq (.reg [
  ⟨45, true, .bin .eql, [.s 6, .c (.int .i64 2)], none, [], []⟩,
  ⟨44, true, .mv, [.s 45], none, [], []⟩])
 (.cond (.s 44) .skip
 (.seq (.reg [
  ⟨46, true, .bin .eql, [.s 6, .c (.int .i64 3)], none, [], []⟩,
  ⟨44, true, .mv, [.s 46], none, [], []⟩])
 (.cond (.s 44) .skip
 (.reg [
  ⟨47, true, .bin .eql, [.s 6, .c (.int .i64 4)], none, [], []⟩,
  ⟨44, true, .mv, [.s 47], none, [], []⟩])))))
 (.cond (.s 44) (.seq (.reg [
  ⟨48, true, .load (some 1), [.s 3], none, [], []⟩,
  ⟨49, true, .faddr 1, [.s 1], none, [], []⟩,
  ⟨50, true, .load none, [.s 49], none, [], []⟩,
  ⟨51, true, .call 158, [.s 48, .s 50], none, [], []⟩,
  ⟨52, true, .mv, [.s 51], none, [], []⟩,
  ⟨53, true, .load (some 1), [.s 3], (some (52, true)), [], []⟩,
  ⟨54, true, .faddr 2, [.s 1], (some (52, true)), [], []⟩,
  ⟨55, true, .load none, [.s 54], (some (52, true)), [], []⟩,
  ⟨56, true, .call 158, [.s 53, .s 55], (some (52, true)), [], []⟩,
  ⟨57, true, .pick, [.s 52, .s 56, .c (.bool false)], none, [], []⟩,
  ⟨58, true, .mv, [.s 57], none, [], []⟩,
  ⟨59, true, .faddr 3, [.s 1], (some (58, true)), [], []⟩,
  ⟨60, true, .load none, [.s 59], (some (58, true)), [], []⟩,
  ⟨61, true, .bin .eql, [.s 60, .c (.int .i64 0)], (some (58, true)), [], []⟩,
  ⟨62, true, .pick, [.s 58, .s 61, .c (.bool false)], none, [], []⟩,
  ⟨2, true, .mv, [.s 62], none, [], []⟩])
 .ret)
 (.seq (.reg [
  ⟨64, true, .bin .eql, [.s 6, .c (.int .i64 5)], none, [], []⟩,
  ⟨63, true, .mv, [.s 64], none, [], []⟩])
 (.cond (.s 63) (.seq (.reg [
  ⟨65, true, .load (some 1), [.s 3], none, [], []⟩,
  ⟨66, true, .faddr 1, [.s 1], none, [], []⟩,
  ⟨67, true, .load none, [.s 66], none, [], []⟩,
  ⟨68, true, .call 158, [.s 65, .s 67], none, [], []⟩,
  ⟨69, true, .mv, [.s 68], none, [], []⟩,
  ⟨70, true, .faddr 2, [.s 1], (some (69, true)), [], []⟩,
  ⟨71, true, .load none, [.s 70], (some (69, true)), [], []⟩,
  ⟨72, true, .bin .eql, [.s 71, .c (.int .i64 0)], (some (69, true)), [], []⟩,
  ⟨73, true, .pick, [.s 69, .s 72, .c (.bool false)], none, [], []⟩,
  ⟨74, true, .mv, [.s 73], none, [], []⟩,
  ⟨75, true, .faddr 3, [.s 1], (some (74, true)), [], []⟩,
  ⟨76, true, .load none, [.s 75], (some (74, true)), [], []⟩,
  ⟨77, true, .bin .geq, [.s 76, .c (.int .i64 (-63))], (some (74, true)), [], []⟩,
  ⟨78, true, .pick, [.s 74, .s 77, .c (.bool false)], none, [], []⟩,
  ⟨79, true, .mv, [.s 78], none, [], []⟩,
  ⟨80, true, .faddr 3, [.s 1], (some (79, true)), [], []⟩,
  ⟨81, true, .load none, [.s 80], (some (79, true)), [], []⟩,
  ⟨82, true, .bin .leq, [.s 81, .c (.int .i64 63)], (some (79, true)), [], []⟩,
  ⟨83, true, .pick, [.s 79, .s 82, .c (.bool false)], none, [], []⟩,
  ⟨2, true, .mv, [.s 83], none, [], []⟩])
 .ret)
 (.seq (.reg [
  ⟨85, true, .bin .eql, [.s 6, .c (.int .i64 6)], none, [], []⟩,
  ⟨84, true, .mv, [.s 85], none, [], []⟩])
 (.cond (.s 84) (.seq (.reg [
  ⟨86, true, .load (some 1), [.s 3], none, [], []⟩,
  ⟨87, true, .faddr 1, [.s 1], none, [], []⟩,
  ⟨88, true, .load none, [.s 87], none, [], []⟩,
  ⟨89, true, .call 158, [.s 86, .s 88], none, [], []⟩,
  ⟨90, true, .mv, [.s 89], none, [], []⟩,
  ⟨91, true, .faddr 2, [.s 1], (some (90, true)), [], []⟩,
  ⟨92, true, .load none, [.s 91], (some (90, true)), [], []⟩,
  ⟨93, true, .bin .eql, [.s 92, .c (.int .i64 0)], (some (90, true)), [], []⟩,
  ⟨94, true, .pick, [.s 90, .s 93, .c (.bool false)], none, [], []⟩,
  ⟨95, true, .mv, [.s 94], none, [], []⟩,
  ⟨96, true, .faddr 3, [.s 1], (some (95, true)), [], []⟩,
  ⟨97, true, .load none, [.s 96], (some (95, true)), [], []⟩,
  ⟨98, true, .bin .geq, [.s 97, .c (.int .i64 1)], (some (95, true)), [], []⟩,
  ⟨99, true, .pick, [.s 95, .s 98, .c (.bool false)], none, [], []⟩,
  ⟨100, true, .mv, [.s 99], none, [], []⟩,
  ⟨101, true, .faddr 3, [.s 1], (some (100, true)), [], []⟩,
  ⟨102, true, .load none, [.s 101], (some (100, true)), [], []⟩,
  ⟨103, true, .bin .leq, [.s 102, .c (.int .i64 64)], (some (100, true)), [], []⟩,
  ⟨104, true, .pick, [.s 100, .s 103, .c (.bool false)], none, [], []⟩,
  ⟨2, true, .mv, [.s 104], none, [], []⟩])
 .ret)
 (.seq (.reg [
  ⟨106, true, .bin .eql, [.s 6, .c (.int .i64 7)], none, [], []⟩,
  ⟨105, true, .mv, [.s 106], none, [], []⟩])
 (.cond (.s 105) (.seq (.reg [
  ⟨107, true, .load (some 1), [.s 3], none, [], []⟩,
  ⟨108, true, .faddr 1, [.s 1], none, [], []⟩,
  ⟨109, true, .load none, [.s 108], none, [], []⟩,
  ⟨110, true, .call 158, [.s 107, .s 109], none, [], []⟩,
  ⟨111, true, .mv, [.s 110], none, [], []⟩,
  ⟨112, true, .faddr 2, [.s 1], (some (111, true)), [], []⟩,
  ⟨113, true, .load none, [.s 112], (some (111, true)), [], []⟩,
  ⟨114, true, .bin .eql, [.s 113, .c (.int .i64 0)], (some (111, true)), [], []⟩,
  ⟨115, true, .pick, [.s 111, .s 114, .c (.bool false)], none, [], []⟩,
  ⟨116, true, .mv, [.s 115], none, [], []⟩,
  ⟨117, true, .faddr 3, [.s 1], (some (116, true)), [], []⟩,
  ⟨118, true, .load none, [.s 117], (some (116, true)), [], []⟩,
  ⟨119, true, .bin .geq, [.s 118, .c (.int .i64 1)], (some (116, true)), [], []⟩,
  ⟨120, true, .pick, [.s 116, .s 119, .c (.bool false)], none, [], []⟩,
  ⟨121, true, .mv, [.s 120], none, [], []⟩,
  ⟨122, true, .faddr 3, [.s 1], (some (121, true)), [], []⟩,
  ⟨123, true, .load none, [.s 122], (some (121, true)), [], []⟩,
  ⟨124, true, .bin .leq, [.s 123, .c (.int .i64 24)], (some (121, true)), [], []⟩,
  ⟨125, true, .pick, [.s 121, .s 124, .c (.bool false)], none, [], []⟩,
  ⟨2, true, .mv, [.s 125], none, [], []⟩])
 .ret)
 (.seq (.reg [
  ⟨127, true, .bin .eql, [.s 6, .c (.int .i64 8)], none, [], []⟩,
  ⟨126, true, .mv, [.s 127], none, [], []⟩])
 (.cond (.s 126) (.seq (.reg [
  ⟨128, true, .faddr 1, [.s 1], none, [], []⟩,
  ⟨129, true, .load none, [.s 128], none, [], []⟩,
  ⟨130, true, .bin .eql, [.s 129, .c (.int .i64 0)], none, [], []⟩,
  ⟨131, true, .mv, [.s 130], none, [], []⟩,
  ⟨132, true, .faddr 2, [.s 1], (some (131, true)), [], []⟩,
  ⟨133, true, .load none, [.s 132], (some (131, true)), [], []⟩,
  ⟨134, true, .bin .geq, [.s 133, .c (.int .i64 1)], (some (131, true)), [], []⟩,
  ⟨135, true, .pick, [.s 131, .s 134, .c (.bool false)], none, [], []⟩,
  ⟨136, true, .mv, [.s 135], none, [], []⟩,
  ⟨137, true, .faddr 2, [.s 1], (some (136, true)), [], []⟩,
  ⟨138, true, .load none, [.s 137], (some (136, true)), [], []⟩,
  ⟨139, true, .bin .leq, [.s 138, .c (.int .i64 24)], (some (136, true)), [], []⟩,
  ⟨140, true, .pick, [.s 136, .s 139, .c (.bool false)], none, [], []⟩,
  ⟨141, true, .mv, [.s 140], none, [], []⟩,
  ⟨142, true, .faddr 3, [.s 1], (some (141, true)), [], []⟩,
  ⟨143, true, .load none, [.s 142], (some (141, true)), [], []⟩,
  ⟨144, true, .bin .geq, [.s 143, .c (.int .i64 1)], (some (141, true)), [], []⟩,
  ⟨145, true, .pick, [.s 141, .s 144, .c (.bool false)], none, [], []⟩,
  ⟨146, true, .mv, [.s 145], none, [], []⟩,
  ⟨147, true, .faddr 3, [.s 1], (some (146, true)), [], []⟩,
  ⟨148, true, .load none, [.s 147], (some (146, true)), [], []⟩,
  ⟨149, true, .bin .leq, [.s 148, .c (.int .i64 20)], (some (146, true)), [], []⟩,
  ⟨150, true, .pick, [.s 146, .s 149, .c (.bool false)], none, [], []⟩,
  ⟨2, true, .mv, [.s 150], none, [], []⟩])
 .ret)
 (.seq (.seq (.reg [
  ⟨152, true, .bin .eql, [.s 6, .c (.int .i64 9)], none, [], []⟩,
  ⟨151, true, .mv, [.s 152], none, [], []⟩])
 (.cond (.s 151) .skip
 (.reg [
  ⟨153, true, .bin .eql, [.s 6, .c (.int .i64 10)], none, [], []⟩,
  ⟨151, true, .mv, [.s 153], none, [], []⟩])))
 (.cond (.s 151) (.seq (.reg [
  ⟨154, true, .faddr 1, [.s 1], none, [], []⟩,
  ⟨155, true, .load none, [.s 154], none, [], []⟩,
  ⟨156, true, .bin .geq, [.s 155, .c (.int .i64 0)], none, [], []⟩,
  ⟨157, true, .mv, [.s 156], none, [], []⟩,
  ⟨158, true, .faddr 1, [.s 1], (some (157, true)), [], []⟩,
  ⟨159, true, .load none, [.s 158], (some (157, true)), [], []⟩,
  ⟨160, true, .bin .lss, [.s 159, .c (.int .i64 4)], (some (157, true)), [], []⟩,
  ⟨161, true, .pick, [.s 157, .s 160, .c (.bool false)], none, [], []⟩,
  ⟨162, true, .mv, [.s 161], none, [], []⟩,
  ⟨163, true, .faddr 2, [.s 1], (some (162, true)), [], []⟩,
  ⟨164, true, .load none, [.s 163], (some (162, true)), [], []⟩,
  ⟨165, true, .bin .eql, [.s 164, .c (.int .i64 0)], (some (162, true)), [], []⟩,
  ⟨166, true, .pick, [.s 162, .s 165, .c (.bool false)], none, [], []⟩,
  ⟨167, true, .mv, [.s 166], none, [], []⟩,
  ⟨168, true, .faddr 3, [.s 1], (some (167, true)), [], []⟩,
  ⟨169, true, .load none, [.s 168], (some (167, true)), [], []⟩,
  ⟨170, true, .bin .eql, [.s 169, .c (.int .i64 0)], (some (167, true)), [], []⟩,
  ⟨171, true, .pick, [.s 167, .s 170, .c (.bool false)], none, [], []⟩,
  ⟨2, true, .mv, [.s 171], none, [], []⟩])
 .ret)
 .skip))))))))))))))))))
 (.seq (.reg [
  ⟨2, true, .mv, [.c (.bool false)], none, [], []⟩])
 .ret))))
def F114 : AFun where
  n := 52
  res := [.tmp 4]
  code := (.seq (.reg [
  ⟨2, true, .box 11, [.s 0], none, [], []⟩,
  ⟨3, true, .box 11, [.s 1], none, [], []⟩,
  ⟨4, true, .mv, [.c (.bool false)], none, [], []⟩])
 (.seq (.seq (.reg [
  ⟨6, true, .faddr 0, [.s 2], none, [], []⟩,
  ⟨7, true, .load none, [.s 6], none, [], []⟩,
  ⟨8, true, .faddr 0, [.s 3], none, [], []⟩,
  ⟨9, true, .load none, [.s 8], none, [], []⟩,
  ⟨10, true, .bin .neq, [.s 7, .s 9], none, [], []⟩,
  ⟨11, true, .mv, [.s 10], none, [], []⟩,
  ⟨12, true, .faddr 1, [.s 2], (some (11, false)), [], []⟩,
  ⟨13, true, .load (some 8), [.s 12], (some (11, false)), [], []⟩,
  ⟨14, true, .faddr 1, [.s 3], (some (11, false)), [], []⟩,
  ⟨15, true, .load (some 8), [.s 14], (some (11, false)), [], []⟩,
  ⟨16, true, .eqv true [some .i64, some .i64, some .i64, some .i64, some .i64, some .i64, some .i64, some .i64] true, [.s 13, .s 15], (some (11, false)), [], []⟩,
  ⟨17, true, .pick, [.s 11, .c (.bool true), .s 16], none, [], []⟩,
  ⟨18, true, .mv, [.s 17], none, [], []⟩,
  ⟨19, true, .faddr 10, [.s 2], (some (18, false)), [], []⟩,
  ⟨20, true, .load none, [.s 19], (some (18, false)), [], []⟩,
  ⟨21, true, .faddr 10, [.s 3], (some (18, false)), [], []⟩,
  ⟨22, true, .load none, [.s 21], (some (18, false)), [], []⟩,
  ⟨23, true, .eqv false [none] true, [.s 20, .s 22], (some (18, false)), [], []⟩,
  ⟨24, true, .pick, [.s 18, .c (.bool true), .s 23], none, [], []⟩,
  ⟨25, true, .mv, [.s 24], none, [], []⟩,
  ⟨26, true, .faddr 9, [.s 2], (some (25, false)), [], []⟩,
  ⟨27, true, .load none, [.s 26], (some (25, false)), [], []⟩,
  ⟨28, true, .len, [.s 27], (some (25, false)), [], []⟩,
  ⟨29, true, .faddr 9, [.s 3], (some (25, false)), [], []⟩,
  ⟨30, true, .load none, [.s 29], (some (25, false)), [], []⟩,
  ⟨31, true, .len, [.s 30], (some (25, false)), [], []⟩,
  ⟨32, true, .bin .neq, [.s 28, .s 31], (some (25, false)), [], []⟩,
  ⟨33, true, .pick, [.s 25, .c (.bool true), .s 32], none, [], []⟩])
 (.cond (.s 33) (.seq (.reg [
  ⟨4, true, .mv, [.c (.bool false)], none, [], []⟩])
 .ret)
 .skip))
 (.seq (.seq (.reg [
  ⟨5, true, .mv, [.c (.int .i64 0)], none, [], []⟩])
 (.block 0 (.loop (.seq (.seq (.reg [
  ⟨34, true, .mv, [.s 5], none, [], []⟩,
  ⟨35, true, .faddr 9, [.s 2], none, [], []⟩,
  ⟨36, true, .load none, [.s 35], none, [], []⟩,
  ⟨37, true, .len, [.s 36], none, [], []⟩,
  ⟨38, true, .bin .lss, [.s 34, .s 37], none, [], []⟩])
 (.cond (.s 38) .skip
 (.exit 0)))
 (.seq (.block 1 (.seq (.drw [
  ⟨41, true, .faddr 9, [.s 2], none, [], []⟩,
  ⟨42, true, .load none, [.s 41], none, [2], []⟩,
  ⟨43, true, .mv, [.s 5], none, [], []⟩,
  ⟨44, true, .iaddr 3, [.s 42, .s 43], none, [], []⟩,
  ⟨45, true, .load (some 3), [.s 44], none, [], []⟩,
  ⟨46, true, .faddr 9, [.s 3], none, [], []⟩,
  ⟨47, true, .load none, [.s 46], none, [3], []⟩,
  ⟨48, true, .mv, [.s 5], none, [], []⟩,
  ⟨49, true, .iaddr 3, [.s 47, .s 48], none, [], []⟩,
  ⟨50, true, .load (some 3), [.s 49], none, [], []⟩,
  ⟨51, true, .eqv true [some .i64, some .i64, some .i64] true, [.s 45, .s 50], none, [], []⟩])
 (.cond (.s 51) (.seq (.reg [
  ⟨4, true, .mv, [.c (.bool false)], none, [], []⟩])
 .ret)
 .skip)))
 (.reg [
  ⟨39, true, .mv, [.s 5], none, [], []⟩,
  ⟨40, true, .bin .add, [.s 39, .c (.int .i64 1)], none, [], []⟩,
  ⟨5, true, .mv, [.s 40], none, [], []⟩]))))))
 (.seq (.reg [
  ⟨4, true, .mv, [.c (.bool true)], none, [], []⟩])
 .ret))))
def F136 : AFun := cloneOf 3 24 [(.int .i64 0), (.int .i64 0), (.int .i64 0)]
def F137 : AFun := cloneOf 1 8 [(.int .i64 0)]
def F144 : AFun where
  n := 13
  res := [.cell 4 (some 28)]
  code := (.seq (.reg [
  ⟨2, true, .box 28, [.s 0], none, [], []⟩,
  ⟨3, true, .box 1, [.s 1], none, [], []⟩,
  ⟨4, true, .zero [(.int .i64 0), (.int .i64 0), (.int .i64 0), (.int .i64 0), (.int .i64 0), (.int .i64 0), (.int .i64 0), (.int .i64 0), (.int .i64 0), (.int .i64 0), (.int .i64 0), (.int .i64 0), (.int .i64 0), (.e true), (.bool false), (.int .i64 0), (.int .i64 0), (.int .i64 0), (.int .i64 0), (.int .i64 0), (.int .i64 0), (.int .i64 0), (.int .i64 0), (.int .i64 0), (.e true), (.bool false), (.e true), (.bool false)], [], none, [], []⟩])
 (.seq (.reg [
  ⟨5, true, .load (some 28), [.s 2], none, [], []⟩,
  ⟨6, true, .call 218, [.s 5], none, [], []⟩,
  ⟨500, false, .store 28, [.s 2, .s 6], none, [], []⟩])
 (.seq (.reg [
  ⟨7, true, .faddr 26, [.s 2], none, [], []⟩,
  ⟨8, true, .load none, [.s 7], none, [], []⟩,
  ⟨9, true, .mkfn 220 0, [.s 3], none, [], []⟩,
  ⟨10, true, .call 219, [.s 8, .s 9], none, [], []⟩,
  ⟨11, true, .faddr 26, [.s 2], none, [], []⟩,
  ⟨501, false, .store 1, [.s 11, .s 10], none, [], []⟩])
 (.seq (.reg [
  ⟨12, true, .load (some 28), [.s 2], none, [], []⟩,
  ⟨502, false, .store 28, [.s 4, .s 12], none, [], []⟩])
 .ret))))
def F155 : AFun where
  n := 7
  res := [.cell 2 (some 11)]
  code := (.seq (.reg [
  ⟨2, true, .zero [(.int .i64 0), (.int .i64 0), (.int .i64 0), (.int .i64 0), (.int .i64 0), (.int .i64 0), (.int .i64 0), (.int .i64 0), (.int .i64 0), (.e true), (.bool false)], [], none, [], []⟩])
 (.seq (.reg [
  ⟨3, true, .mv, [.s 0], none, [], []⟩,
  ⟨4, true, .faddr 1, [.s 2], none, [], []⟩,
  ⟨5, true, .iaddrA 8 1, [.s 4, .c (.int .i64 0)], none, [], []⟩,
  ⟨500, false, .store 1, [.s 5, .s 3], none, [], []⟩])
 (.seq (.reg [
  ⟨6, true, .load (some 11), [.s 2], none, [], []⟩,
  ⟨501, false, .store 11, [.s 2, .s 6], none, [], []⟩])
 .ret)))
def F158 : AFun where
  n := 13
  res := [.tmp 4]
  code := (.seq (.reg [
  ⟨2, true, .box 1, [.s 0], none, [], []⟩,
  ⟨4, true, .mv, [.c (.bool false)], none, [], []⟩])
 (.seq (.reg [
  ⟨5, true, .mv, [.s 1], none, [], []⟩,
  ⟨6, true, .bin .geq, [.s 5, .c (.int .i64 0)], none, [], []⟩,
  ⟨7, true, .mv, [.s 6], none, [], []⟩,
  ⟨8, true, .mv, [.s 1], (some (7, true)), [], []⟩,
  ⟨9, true, .faddr 0, [.s 2], (some (7, true)), [], []⟩,
  ⟨10, true, .load none, [.s 9], (some (7, true)), [], []⟩,
  ⟨11, true, .bin .lss, [.s 8, .s 10], (some (7, true)), [], []⟩,
  ⟨12, true, .pick, [.s 7, .s 11, .c (.bool false)], none, [], []⟩,
  ⟨4, true, .mv, [.s 12], none, [], []⟩])
 .ret))
def F170 : AFun where
  n := 16
  res := [.cell 6 (some 28)]
  code := (.seq (.reg [
  ⟨6, true, .zero [(.int .i64 0), (.int .i64 0), (.int .i64 0), (.int .i64 0), (.int .i64 0), (.int .i64 0), (.int .i64 0), (.int .i64 0), (.int .i64 0), (.int .i64 0), (.int .i64 0), (.int .i64 0), (.int .i64 0), (.e true), (.bool false), (.int .i64 0), (.int .i64 0), (.int .i64 0), (.int .i64 0), (.int .i64 0), (.int .i64 0), (.int .i64 0), (.int .i64 0), (.int .i64 0), (.e true), (.bool false), (.e true), (.bool false)], [], none, [], []⟩])
 (.seq (.reg [
  ⟨8, true, .mv, [.s 2], none, [], []⟩,
  ⟨9, true, .call 239, [.s 8], none, [], []⟩,
  ⟨7, true, .zero [(.int .i64 0), (.int .i64 0), (.int .i64 0), (.int .i64 0), (.int .i64 0), (.int .i64 0), (.int .i64 0), (.int .i64 0), (.int .i64 0), (.e true), (.bool false)], [], none, [], []⟩,
  ⟨500, false, .store 11, [.s 7, .s 9], none, [], []⟩])
 (.seq (.reg [
  ⟨10, true, .mv, [.s 0], none, [], []⟩,
  ⟨11, true, .mv, [.s 1], none, [], []⟩,
  ⟨12, true, .mv, [.s 2], none, [], []⟩,
  ⟨13, true, .load (some 11), [.s 7], none, [], []⟩,
  ⟨14, true, .load (some 11), [.s 7], none, [], []⟩,
  ⟨15, true, .build [(.int .i64 0), (.int .i64 0), (.int .i64 0), (.int .i64 0), (.int .i64 0), (.int .i64 0), (.int .i64 0), (.int .i64 0), (.int .i64 0), (.int .i64 0), (.int .i64 0), (.int .i64 0), (.int .i64 0), (.e true), (.bool false), (.int .i64 0), (.int .i64 0), (.int .i64 0), (.int .i64 0), (.int .i64 0), (.int .i64 0), (.int .i64 0), (.int .i64 0), (.int .i64 0), (.e true), (.bool false), (.e true), (.bool false)] [(0, 1), (1, 1), (2, 1), (4, 11), (15, 11)], [.s 10, .s 11, .s 12, .s 13, .s 14], none, [], []⟩,
  ⟨501, false, .store 28, [.s 6, .s 15], none, [], []⟩])
 .ret)))
def F185 : AFun where
  n := 82
  res := [.cell 4 (some 28), .cell 5 (some 4), .tmp 6]
  code := (.seq (.reg [
  ⟨2, true, .box 6, [.s 0], none, [], []⟩,
  ⟨3, true, .box 28, [.s 1], none, [], []⟩,
  ⟨4, true, .zero [(.int .i64 0), (.int .i64 0), (.int .i64 0), (.int .i64 0), (.int .i64 0), (.int .i64 0), (.int .i64 0), (.int .i64 0), (.int .i64 0), (.int .i64 0), (.int .i64 0), (.int .i64 0), (.int .i64 0), (.e true), (.bool false), (.int .i64 0), (.int .i64 0), (.int .i64 0), (.int .i64 0), (.int .i64 0), (.int .i64 0), (.int .i64 0), (.int .i64 0), (.int .i64 0), (.e true), (.bool false), (.e true), (.bool false)], [], none, [], []⟩,
  ⟨5, true, .zero [(.int .i64 0), (.int .i64 0), (.int .i64 0), (.int .i64 0)], [], none, [], []⟩,
  ⟨6, true, .mv, [.c (.bool false)], none, [], []⟩])
 (.seq (.drw [
  ⟨13, true, .load (some 6), [.s 2], none, [2], []⟩,
  ⟨14, true, .load (some 28), [.s 3], none, [3], []⟩,
  ⟨15, true, .call 245, [.s 13, .s 14], none, [], []⟩,
  ⟨16, true, .faddr 4, [.s 3], none, [], []⟩,
  ⟨17, true, .load (some 11), [.s 16], none, [3], []⟩,
  ⟨18, true, .call 244, [.s 15, .s 17], none, [15], [15]⟩,
  ⟨12, true, .mv, [.s 18], none, [], []⟩,
  ⟨19, true, .extract 0, [.s 12], none, [], []⟩,
  ⟨20, true, .extract 1, [.s 12], none, [], []⟩,
  ⟨21, true, .extract 2, [.s 12], none, [], []⟩,
  ⟨7, true, .zero [(.int .i64 0), (.int .i64 0), (.int .i64 0), (.int .i64 0), (.int .i64 0), (.int .i64 0), (.int .i64 0), (.int .i64 0), (.int .i64 0), (.e true), (.bool false)], [], none, [], []⟩,
  ⟨8, true, .zero [(.int .i64 0), (.int .i64 0), (.int .i64 0), (.int .i64 0)], [], none, [], []⟩,
  ⟨500, false, .store 11, [.s 7, .s 19], none, [7, 18], [7, 18]⟩,
  ⟨501, false, .store 4, [.s 8, .s 20], none, [8], [8]⟩,
  ⟨9, true, .mv, [.s 21], none, [], []⟩])
 (.seq (.seq (.reg [
  ⟨22, true, .mv, [.s 9], none, [], []⟩,
  ⟨23, true, .un .not, [.s 22], none, [], []⟩])
 (.cond (.s 23) (.seq (.reg [
  ⟨24, true, .load (some 28), [.s 3], none, [], []⟩,
  ⟨25, true, .build [(.int .i64 0), (.int .i64 0), (.int .i64 0), (.int .i64 0)] [], [], none, [], []⟩,
  ⟨502, false, .store 28, [.s 4, .s 24], none, [], []⟩,
  ⟨503, false, .store 4, [.s 5, .s 25], none, [], []⟩,
  ⟨6, true, .mv, [.c (.bool false)], none, [], []⟩])
 .ret)
 .skip))
 (.seq (.reg [
  ⟨26, true, .load (some 28), [.s 3], none, [], []⟩,
  ⟨10, true, .zero [(.int .i64 0), (.int .i64 0), (.int .i64 0), (.int .i64 0), (.int .i64 0), (.int .i64 0), (.int .i64 0), (.int .i64 0), (.int .i64 0), (.int .i64 0), (.int .i64 0), (.int .i64 0), (.int .i64 0), (.e true), (.bool false), (.int .i64 0), (.int .i64 0), (.int .i64 0), (.int .i64 0), (.int .i64 0), (.int .i64 0), (.int .i64 0), (.int .i64 0), (.int .i64 0), (.e true), (.bool false), (.e true), (.bool false)], [], none, [], []⟩,
  ⟨504, false, .store 28, [.s 10, .s 26], none, [], []⟩])
 (.seq (.reg [
  ⟨27, true, .load (some 11), [.s 7], none, [], []⟩,
  ⟨28, true, .faddr 4, [.s 10], none, [], []⟩,
  ⟨505, false, .store 11, [.s 28, .s 27], none, [], []⟩])
 (.seq (.reg [
  ⟨29, true, .buildSl 1 [(.int .i64 0)] 0 [], [], none, [], []⟩,
  ⟨30, true, .faddr 26, [.s 3], none, [], []⟩,
  ⟨31, true, .load none, [.s 30], none, [], []⟩,
  ⟨32, true, .app 1 8 [(.int .i64 0)], [.s 29, .s 31], none, [], []⟩,
  ⟨33, true, .faddr 26, [.s 10], none, [], []⟩,
  ⟨506, false, .store 1, [.s 33, .s 32], none, [], []⟩])
 (.seq (.seq (.reg [
  ⟨34, true, .faddr 0, [.s 8], none, [], []⟩,
  ⟨35, true, .load none, [.s 34], none, [], []⟩])
 (.block 0 (.seq (.reg [
  ⟨37, true, .bin .eql, [.s 35, .c (.int .i64 11)], none, [], []⟩,
  ⟨36, true, .mv, [.s 37], none, [], []⟩])
 (.cond (.s 36) (.reg [
  ⟨38, true, .load (some 11), [.s 7], none, [], []⟩,
  ⟨39, true, .faddr 15, [.s 10], none, [], []⟩,
  ⟨507, false, .store 11, [.s 39, .s 38], none, [], []⟩])
 (.seq (.reg [
  ⟨41, true, .bin .eql, [.s 35, .c (.int .i64 9)], none, [], []⟩,
  ⟨40, true, .mv, [.s 41], none, [], []⟩])
 (.cond (.s 40) (.reg [
  ⟨42, true, .faddr 26, [.s 10], none, [], []⟩,
  ⟨43, true, .load none, [.s 42], none, [], []⟩,
  ⟨44, true, .faddr 1, [.s 8], none, [], []⟩,
  ⟨45, true, .load none, [.s 44], none, [], []⟩,
  ⟨46, true, .buildSl 1 [(.int .i64 0)] 1 [0], [.s 45], none, [], []⟩,
  ⟨47, true, .app 1 8 [(.int .i64 0)], [.s 43, .s 46], none, [], []⟩,
  ⟨48, true, .faddr 26, [.s 10], none, [], []⟩,
  ⟨508, false, .store 1, [.s 48, .s 47], none, [], []⟩])
 (.seq (.reg [
  ⟨50, true, .bin .eql, [.s 35, .c (.int .i64 10)], none, [], []⟩,
  ⟨49, true, .mv, [.s 50], none, [], []⟩])
 (.cond (.s 49) (.seq (.reg [
  ⟨51, true, .faddr 26, [.s 10], none, [], []⟩,
  ⟨52, true, .load none, [.s 51], none, [], []⟩,
  ⟨53, true, .len, [.s 52], none, [], []⟩,
  ⟨54, true, .bin .sub, [.s 53, .c (.int .i64 1)], none, [], []⟩,
  ⟨11, true, .mv, [.s 54], none, [], []⟩])
 (.block 1 (.loop (.seq (.seq (.reg [
  ⟨55, true, .mv, [.s 11], none, [], []⟩,
  ⟨56, true, .bin .geq, [.s 55, .c (.int .i64 0)], none, [], []⟩])
 (.cond (.s 56) .skip
 (.exit 1)))
 (.seq (.block 2 (.seq (.drw [
  ⟨59, true, .faddr 26, [.s 10], none, [], []⟩,
  ⟨60, true, .load none, [.s 59], none, [10], []⟩,
  ⟨61, true, .mv, [.s 11], none, [], []⟩,
  ⟨62, true, .iaddr 1, [.s 60, .s 61], none, [18, 29, 32, 46, 47, 67, 72, 78], []⟩,
  ⟨63, true, .load none, [.s 62], none, [18, 29, 32, 46, 47, 67, 72, 78], []⟩,
  ⟨64, true, .faddr 1, [.s 8], none, [], []⟩,
  ⟨65, true, .load none, [.s 64], none, [8], []⟩,
  ⟨66, true, .bin .eql, [.s 63, .s 65], none, [], []⟩])
 (.cond (.s 66) (.seq (.drw [
  ⟨67, true, .buildSl 1 [(.int .i64 0)] 0 [], [], none, [], []⟩,
  ⟨68, true, .faddr 26, [.s 10], none, [], []⟩,
  ⟨69, true, .load none, [.s 68], none, [10], []⟩,
  ⟨70, true, .mv, [.s 11], none, [], []⟩,
  ⟨71, true, .slice 1 false true, [.s 69, .s 70], none, [18, 29, 32, 46, 47], []⟩,
  ⟨72, true, .app 1 8 [(.int .i64 0)], [.s 67, .s 71], none, [67, 18, 29, 32, 46, 47, 72, 78], [67]⟩,
  ⟨73, true, .faddr 26, [.s 10], none, [], []⟩,
  ⟨74, true, .load none, [.s 73], none, [10], []⟩,
  ⟨75, true, .mv, [.s 11], none, [], []⟩,
  ⟨76, true, .bin .add, [.s 75, .c (.int .i64 1)], none, [], []⟩,
  ⟨77, true, .slice 1 true false, [.s 74, .s 76], none, [18, 29, 32, 46, 47], []⟩,
  ⟨78, true, .app 1 8 [(.int .i64 0)], [.s 72, .s 77], none, [67, 18, 29, 32, 46, 47, 72, 78], [67, 18, 29, 32, 46, 47, 72, 78]⟩,
  ⟨79, true, .faddr 26, [.s 10], none, [], []⟩,
  ⟨509, false, .store 1, [.s 79, .s 78], none, [10, 67, 18, 29, 32, 46, 47, 72, 78], [10, 67, 18, 29, 32, 46, 47, 72, 78]⟩])
 (.exit 1))
 .skip)))
 (.reg [
  ⟨57, true, .mv, [.s 11], none, [], []⟩,
  ⟨58, true, .bin .sub, [.s 57, .c (.int .i64 1)], none, [], []⟩,
  ⟨11, true, .mv, [.s 58], none, [], []⟩]))))))
 .skip))))))))
 (.seq (.drw [
  ⟨80, true, .load (some 28), [.s 10], none, [10], []⟩,
  ⟨81, true, .load (some 4), [.s 8], none, [8], []⟩,
  ⟨510, false, .store 28, [.s 4, .s 80], none, [4, 18, 29, 32, 46, 47, 67, 72, 78], [4, 18, 29, 32, 46, 47, 67, 72, 78]⟩,
  ⟨511, false, .store 4, [.s 5, .s 81], none, [5], [5]⟩,
  ⟨6, true, .mv, [.c (.bool true)], none, [], []⟩])
 .ret))))))))
def F189 : AFun where
  n := 18
  res := [.cell 2 (some 28)]
  code := (.seq (.reg [
  ⟨1, true, .box 28, [.s 0], none, [], []⟩,
  ⟨2, true, .zero [(.int .i64 0), (.int .i64 0), (.int .i64 0), (.int .i64 0), (.int .i64 0), (.int .i64 0), (.int .i64 0), (.int .i64 0), (.int .i64 0), (.int .i64 0), (.int .i64 0), (.int .i64 0), (.int .i64 0), (.e true), (.bool false), (.int .i64 0), (.int .i64 0), (.int .i64 0), (.int .i64 0), (.int .i64 0), (.int .i64 0), (.int .i64 0), (.int .i64 0), (.int .i64 0), (.e true), (.bool false), (.e true), (.bool false)], [], none, [], []⟩])
 (.seq (.reg [
  ⟨4, true, .load (some 28), [.s 1], none, [], []⟩,
  ⟨3, true, .zero [(.int .i64 0), (.int .i64 0), (.int .i64 0), (.int .i64 0), (.int .i64 0), (.int .i64 0), (.int .i64 0), (.int .i64 0), (.int .i64 0), (.int .i64 0), (.int .i64 0), (.int .i64 0), (.int .i64 0), (.e true), (.bool false), (.int .i64 0), (.int .i64 0), (.int .i64 0), (.int .i64 0), (.int .i64 0), (.int .i64 0), (.int .i64 0), (.int .i64 0), (.int .i64 0), (.e true), (.bool false), (.e true), (.bool false)], [], none, [], []⟩,
  ⟨500, false, .store 28, [.s 3, .s 4], none, [], []⟩])
 (.seq (.reg [
  ⟨5, true, .faddr 3, [.s 3], none, [], []⟩,
  ⟨501, false, .store 1, [.s 5, .c (.int .i64 2)], none, [], []⟩,
  ⟨6, true, .faddr 26, [.s 3], none, [], []⟩,
  ⟨502, false, .store 1, [.s 6, .c (.e true)], none, [], []⟩,
  ⟨7, true, .faddr 27, [.s 3], none, [], []⟩,
  ⟨503, false, .store 1, [.s 7, .c (.bool false)], none, [], []⟩])
 (.seq (.reg [
  ⟨8, true, .faddr 4, [.s 1], none, [], []⟩,
  ⟨9, true, .faddr 1, [.s 8], none, [], []⟩,
  ⟨10, true, .iaddrA 8 1, [.s 9, .c (.int .i64 0)], none, [], []⟩,
  ⟨11, true, .load none, [.s 10], none, [], []⟩,
  ⟨12, true, .call 239, [.s 11], none, [], []⟩,
  ⟨13, true, .faddr 4, [.s 3], none, [], []⟩,
  ⟨504, false, .store 11, [.s 13, .s 12], none, [], []⟩])
 (.seq (.reg [
  ⟨14, true, .faddr 4, [.s 3], none, [], []⟩,
  ⟨15, true, .load (some 11), [.s 14], none, [], []⟩,
  ⟨16, true, .faddr 15, [.s 3], none, [], []⟩,
  ⟨505, false, .store 11, [.s 16, .s 15], none, [], []⟩])
 (.seq (.reg [
  ⟨17, true, .load (some 28), [.s 3], none, [], []⟩,
  ⟨506, false, .store 28, [.s 2, .s 17], none, [], []⟩])
 .ret))))))
def F216 : AFun where
  n := 24
  res := [.tmp 4]
  code := (.seq (.reg [
  ⟨4, true, .mv, [.c (.e true)], none, [], []⟩])
 (.seq (.reg [
  ⟨7, true, .mv, [.s 0], none, [], []⟩,
  ⟨8, true, .call 270, [.s 7], none, [], []⟩,
  ⟨5, true, .mv, [.s 8], none, [], []⟩])
 (.seq (.seq (.reg [
  ⟨9, true, .mv, [.s 5], none, [], []⟩,
  ⟨10, true, .len, [.s 9], none, [], []⟩,
  ⟨11, true, .mv, [.c (.int .i64 0)], none, [], []⟩])
 (.block 0 (.loop (.seq (.reg [
  ⟨12, true, .bin .lss, [.s 11, .s 10], none, [], []⟩])
 (.seq (.cond (.s 12) .skip
 (.exit 0))
 (.seq (.block 1 (.seq (.reg [
  ⟨13, true, .mv, [.s 11], none, [], []⟩,
  ⟨6, true, .mv, [.s 13], none, [], []⟩])
 (.seq (.reg [
  ⟨14, true, .mv, [.s 0], none, [], []⟩,
  ⟨15, true, .mv, [.s 6], none, [], []⟩,
  ⟨16, true, .mv, [.s 1], none, [], []⟩,
  ⟨17, true, .call 271, [.s 14, .s 15, .s 16], none, [], []⟩])
 (.cond (.s 17) (.reg [
  ⟨18, true, .mv, [.s 5], none, [], []⟩,
  ⟨19, true, .mv, [.s 6], none, [], []⟩,
  ⟨20, true, .iaddr 2, [.s 18, .s 19], none, [], []⟩,
  ⟨21, true, .faddr 1, [.s 20], none, [], []⟩,
  ⟨500, false, .store 1, [.s 21, .c (.int .i64 0)], none, [], []⟩])
 .skip))))
 (.reg [
  ⟨22, true, .bin .add, [.s 11, .c (.int .i64 1)], none, [], []⟩,
  ⟨11, true, .mv, [.s 22], none, [], []⟩])))))))
 (.seq (.reg [
  ⟨23, true, .mv, [.s 5], none, [], []⟩,
  ⟨4, true, .mv, [.s 23], none, [], []⟩])
 .ret))))
def F218 : AFun where
  n := 20
  res := [.cell 2 (some 28)]
  code := (.seq (.reg [
  ⟨1, true, .box 28, [.s 0], none, [], []⟩,
  ⟨2, true, .zero [(.int .i64 0), (.int .i64 0), (.int .i64 0), (.int .i64 0), (.int .i64 0), (.int .i64 0), (.int .i64 0), (.int .i64 0), (.int .i64 0), (.int .i64 0), (.int .i64 0), (.int .i64 0), (.int .i64 0), (.e true), (.bool false), (.int .i64 0), (.int .i64 0), (.int .i64 0), (.int .i64 0), (.int .i64 0), (.int .i64 0), (.int .i64 0), (.int .i64 0), (.int .i64 0), (.e true), (.bool false), (.e true), (.bool false)], [], none, [], []⟩])
 (.seq (.drw [
  ⟨3, true, .faddr 4, [.s 1], none, [], []⟩,
  ⟨4, true, .faddr 9, [.s 3], none, [], []⟩,
  ⟨5, true, .load none, [.s 4], none, [1], []⟩,
  ⟨6, true, .call 136, [.s 5], none, [6, 10, 13], [6, 10, 13]⟩,
  ⟨7, true, .faddr 15, [.s 1], none, [], []⟩,
  ⟨8, true, .faddr 9, [.s 7], none, [], []⟩,
  ⟨9, true, .load none, [.s 8], none, [1], []⟩,
  ⟨10, true, .call 136, [.s 9], none, [6, 10, 13], [6, 10, 13]⟩,
  ⟨11, true, .faddr 26, [.s 1], none, [], []⟩,
  ⟨12, true, .load none, [.s 11], none, [1], []⟩,
  ⟨13, true, .call 137, [.s 12], none, [6, 10, 13], [6, 10, 13]⟩,
  ⟨14, true, .faddr 4, [.s 1], none, [], []⟩,
  ⟨15, true, .faddr 9, [.s 14], none, [], []⟩,
  ⟨500, false, .store 1, [.s 15, .s 6], none, [1, 6], [1, 6]⟩,
  ⟨16, true, .faddr 15, [.s 1], none, [], []⟩,
  ⟨17, true, .faddr 9, [.s 16], none, [], []⟩,
  ⟨501, false, .store 1, [.s 17, .s 10], none, [1, 10], [1, 10]⟩,
  ⟨18, true, .faddr 26, [.s 1], none, [], []⟩,
  ⟨502, false, .store 1, [.s 18, .s 13], none, [1, 13], [1, 13]⟩])
 (.seq (.reg [
  ⟨19, true, .load (some 28), [.s 1], none, [], []⟩,
  ⟨503, false, .store 28, [.s 2, .s 19], none, [], []⟩])
 .ret)))
def F219 : AFun where
  n := 42
  res := [.tmp 4]
  code := (.seq (.reg [
  ⟨4, true, .mv, [.c (.e true)], none, [], []⟩])
 (.seq (.reg [
  ⟨8, true, .mv, [.s 0], none, [], []⟩,
  ⟨9, true, .mv, [.s 1], none, [], []⟩,
  ⟨10, true, .call 274, [.s 8, .s 9], none, [], []⟩,
  ⟨5, true, .mv, [.s 10], none, [], []⟩])
 (.seq (.seq (.reg [
  ⟨11, true, .mv, [.s 5], none, [], []⟩,
  ⟨12, true, .bin .eql, [.s 11, .c (.int .i64 (-1))], none, [], []⟩])
 (.cond (.s 12) (.seq (.reg [
  ⟨13, true, .mv, [.s 0], none, [], []⟩,
  ⟨4, true, .mv, [.s 13], none, [], []⟩])
 .ret)
 .skip))
 (.seq (.seq (.reg [
  ⟨14, true, .mv, [.s 5], none, [], []⟩,
  ⟨15, true, .bin .add, [.s 14, .c (.int .i64 1)], none, [], []⟩,
  ⟨6, true, .mv, [.s 15], none, [], []⟩])
 (.block 0 (.loop (.seq (.seq (.reg [
  ⟨16, true, .mv, [.s 6], none, [], []⟩,
  ⟨17, true, .mv, [.s 0], none, [], []⟩,
  ⟨18, true, .len, [.s 17], none, [], []⟩,
  ⟨19, true, .bin .lss, [.s 16, .s 18], none, [], []⟩])
 (.cond (.s 19) .skip
 (.exit 0)))
 (.seq (.block 1 (.seq (.reg [
  ⟨22, true, .mv, [.s 0], none, [], []⟩,
  ⟨23, true, .mv, [.s 6], none, [], []⟩,
  ⟨24, true, .iaddr 1, [.s 22, .s 23], none, [], []⟩,
  ⟨25, true, .load none, [.s 24], none, [], []⟩,
  ⟨7, true, .mv, [.s 25], none, [], []⟩])
 (.seq (.reg [
  ⟨26, true, .mv, [.s 1], none, [], []⟩,
  ⟨27, true, .mv, [.s 7], none, [], []⟩,
  ⟨28, true, .callv, [.s 26, .s 27], none, [], []⟩,
  ⟨29, true, .un .not, [.s 28], none, [], []⟩])
 (.cond (.s 29) (.seq (.reg [
  ⟨30, true, .mv, [.s 0], none, [], []⟩,
  ⟨31, true, .mv, [.s 5], none, [], []⟩,
  ⟨32, true, .mv, [.s 7], none, [], []⟩,
  ⟨33, true, .iaddr 1, [.s 30, .s 31], none, [], []⟩,
  ⟨500, false, .store 1, [.s 33, .s 32], none, [], []⟩])
 (.reg [
  ⟨34, true, .mv, [.s 5], none, [], []⟩,
  ⟨35, true, .bin .add, [.s 34, .c (.int .i64 1)], none, [], []⟩,
  ⟨5, true, .mv, [.s 35], none, [], []⟩]))
 .skip))))
 (.reg [
  ⟨20, true, .mv, [.s 6], none, [], []⟩,
  ⟨21, true, .bin .add, [.s 20, .c (.int .i64 1)], none, [], []⟩,
  ⟨6, true, .mv, [.s 21], none, [], []⟩]))))))
 (.seq (.reg [
  ⟨36, true, .mv, [.s 0], none, [], []⟩,
  ⟨37, true, .mv, [.s 5], none, [], []⟩,
  ⟨38, true, .slice 1 true false, [.s 36, .s 37], none, [], []⟩,
  ⟨501, false, .clear [(.int .i64 0)], [.s 38], none, [], []⟩])
 (.seq (.reg [
  ⟨39, true, .mv, [.s 0], none, [], []⟩,
  ⟨40, true, .mv, [.s 5], none, [], []⟩,
  ⟨41, true, .slice 1 false true, [.s 39, .s 40], none, [], []⟩,
  ⟨4, true, .mv, [.s 41], none, [], []⟩])
 .ret))))))
def F220 : AFun where
  n := 7
  res := [.tmp 3]
  code := (.seq (.reg [
  ⟨3, true, .mv, [.c (.bool false)], none, [], []⟩])
 (.seq (.reg [
  ⟨4, true, .mv, [.s 0], none, [], []⟩,
  ⟨5, true, .load none, [.s 1], none, [], []⟩,
  ⟨6, true, .bin .eql, [.s 4, .s 5], none, [], []⟩,
  ⟨3, true, .mv, [.s 6], none, [], []⟩])
 .ret))
def F228 : AFun where
  n := 31
  res := [.cell 6 (some 28), .tmp 7, .tmp 8]
  code := (.seq (.reg [
  ⟨3, true, .box 6, [.s 0], none, [], []⟩,
  ⟨4, true, .box 28, [.s 1], none, [], []⟩,
  ⟨6, true, .zero [(.int .i64 0), (.int .i64 0), (.int .i64 0), (.int .i64 0), (.int .i64 0), (.int .i64 0), (.int .i64 0), (.int .i64 0), (.int .i64 0), (.int .i64 0), (.int .i64 0), (.int .i64 0), (.int .i64 0), (.e true), (.bool false), (.int .i64 0), (.int .i64 0), (.int .i64 0), (.int .i64 0), (.int .i64 0), (.int .i64 0), (.int .i64 0), (.int .i64 0), (.int .i64 0), (.e true), (.bool false), (.e true), (.bool false)], [], none, [], []⟩,
  ⟨7, true, .mv, [.c (.e true)], none, [], []⟩,
  ⟨8, true, .mv, [.c (.int .i64 0)], none, [], []⟩])
 (.seq (.drw [
  ⟨9, true, .load (some 6), [.s 3], none, [3], []⟩,
  ⟨10, true, .load (some 28), [.s 4], none, [4], []⟩,
  ⟨11, true, .call 288, [.s 9, .s 10], none, [], []⟩,
  ⟨12, true, .mv, [.s 2], none, [], []⟩,
  ⟨13, true, .faddr 0, [.s 4], none, [], []⟩,
  ⟨14, true, .load none, [.s 13], none, [4], []⟩,
  ⟨15, true, .call 216, [.s 12, .s 14], none, [], []⟩,
  ⟨500, false, .store 28, [.s 6, .s 11], none, [6, 11], [6, 11]⟩,
  ⟨7, true, .mv, [.s 15], none, [], []⟩,
  ⟨8, true, .mv, [.c (.int .i64 6)], none, [], []⟩])
 (.seq (.block 0 (.seq (.reg [
  ⟨17, true, .faddr 3, [.s 4], none, [], []⟩,
  ⟨18, true, .load none, [.s 17], none, [], []⟩,
  ⟨19, true, .bin .eql, [.s 18, .c (.int .i64 2)], none, [], []⟩,
  ⟨16, true, .mv, [.s 19], none, [], []⟩])
 (.cond (.s 16) (.reg [
  ⟨20, true, .load (some 28), [.s 4], none, [], []⟩,
  ⟨21, true, .call 218, [.s 20], none, [], []⟩,
  ⟨501, false, .store 28, [.s 6, .s 21], none, [], []⟩,
  ⟨8, true, .mv, [.c (.int .i64 13)], none, [], []⟩])
 (.seq (.reg [
  ⟨23, true, .faddr 3, [.s 6], none, [], []⟩,
  ⟨24, true, .load none, [.s 23], none, [], []⟩,
  ⟨25, true, .faddr 3, [.s 4], none, [], []⟩,
  ⟨26, true, .load none, [.s 25], none, [], []⟩,
  ⟨27, true, .bin .neq, [.s 24, .s 26], none, [], []⟩,
  ⟨22, true, .mv, [.s 27], none, [], []⟩])
 (.cond (.s 22) (.reg [
  ⟨8, true, .mv, [.c (.int .i64 7)], none, [], []⟩])
 .skip)))))
 (.seq (.reg [
  ⟨28, true, .load (some 28), [.s 6], none, [], []⟩,
  ⟨29, true, .mv, [.s 7], none, [], []⟩,
  ⟨30, true, .mv, [.s 8], none, [], []⟩,
  ⟨502, false, .store 28, [.s 6, .s 28], none, [], []⟩,
  ⟨7, true, .mv, [.s 29], none, [], []⟩,
  ⟨8, true, .mv, [.s 30], none, [], []⟩])
 .ret))))
def F239 : AFun where
  n := 9
  res := [.cell 2 (some 11)]
  code := (.seq (.reg [
  ⟨2, true, .zero [(.int .i64 0), (.int .i64 0), (.int .i64 0), (.int .i64 0), (.int .i64 0), (.int .i64 0), (.int .i64 0), (.int .i64 0), (.int .i64 0), (.e true), (.bool false)], [], none, [], []⟩])
 (.seq (.reg [
  ⟨4, true, .build [(.int .i64 0), (.int .i64 0), (.int .i64 0), (.int .i64 0), (.int .i64 0), (.int .i64 0), (.int .i64 0), (.int .i64 0), (.int .i64 0), (.e true), (.bool false)] [], [], none, [], []⟩,
  ⟨3, true, .zero [(.int .i64 0), (.int .i64 0), (.int .i64 0), (.int .i64 0), (.int .i64 0), (.int .i64 0), (.int .i64 0), (.int .i64 0), (.int .i64 0), (.e true), (.bool false)], [], none, [], []⟩,
  ⟨500, false, .store 11, [.s 3, .s 4], none, [], []⟩])
 (.seq (.reg [
  ⟨5, true, .mv, [.s 0], none, [], []⟩,
  ⟨6, true, .faddr 1, [.s 3], none, [], []⟩,
  ⟨7, true, .iaddrA 8 1, [.s 6, .c (.int .i64 0)], none, [], []⟩,
  ⟨501, false, .store 1, [.s 7, .s 5], none, [], []⟩])
 (.seq (.reg [
  ⟨8, true, .load (some 11), [.s 3], none, [], []⟩,
  ⟨502, false, .store 11, [.s 2, .s 8], none, [], []⟩])
 .ret))))
def F244 : AFun where
  n := 225
  res := [.cell 4 (some 11), .cell 5 (some 4), .tmp 6]
  code := (.seq (.reg [
  ⟨3, true, .box 11, [.s 1], none, [], []⟩,
  ⟨4, true, .zero [(.int .i64 0), (.int .i64 0), (.int .i64 0), (.int .i64 0), (.int .i64 0), (.int .i64 0), (.int .i64 0), (.int .i64 0), (.int .i64 0), (.e true), (.bool false)], [], none, [], []⟩,
  ⟨5, true, .zero [(.int .i64 0), (.int .i64 0), (.int .i64 0), (.int .i64 0)], [], none, [], []⟩,
  ⟨6, true, .mv, [.c (.bool false)], none, [], []⟩])
 (.seq (.reg [
  ⟨10, true, .buildSl 3 [(.int .i64 0), (.int .i64 0), (.int .i64 0)] 0 [], [], none, [], []⟩,
  ⟨11, true, .faddr 9, [.s 3], none, [], []⟩,
  ⟨12, true, .load none, [.s 11], none, [], []⟩,
  ⟨13, true, .app 3 24 [(.int .i64 0), (.int .i64 0), (.int .i64 0)], [.s 10, .s 12], none, [], []⟩,
  ⟨14, true, .faddr 9, [.s 3], none, [], []⟩,
  ⟨500, false, .store 1, [.s 14, .s 13], none, [], []⟩])
 (.seq (.seq (.reg [
  ⟨15, true, .faddr 10, [.s 3], none, [], []⟩,
  ⟨16, true, .load none, [.s 15], none, [], []⟩,
  ⟨17, true, .mv, [.s 16], none, [], []⟩,
  ⟨18, true, .faddr 0, [.s 3], (some (17, false)), [], []⟩,
  ⟨19, true, .load none, [.s 18], (some (17, false)), [], []⟩,
  ⟨20, true, .bin .lss, [.s 19, .c (.int .i64 0)], (some (17, false)), [], []⟩,
  ⟨21, true, .pick, [.s 17, .c (.bool true), .s 20], none, [], []⟩,
  ⟨22, true, .mv, [.s 21], none, [], []⟩,
  ⟨23, true, .faddr 0, [.s 3], (some (22, false)), [], []⟩,
  ⟨24, true, .load none, [.s 23], (some (22, false)), [], []⟩,
  ⟨25, true, .mv, [.s 0], (some (22, false)), [], []⟩,
  ⟨26, true, .len, [.s 25], (some (22, false)), [], []⟩,
  ⟨27, true, .bin .geq, [.s 24, .s 26], (some (22, false)), [], []⟩,
  ⟨28, true, .pick, [.s 22, .c (.bool true), .s 27], none, [], []⟩,
  ⟨29, true, .mv, [.s 28], none, [], []⟩,
  ⟨30, true, .mv, [.s 0], (some (29, false)), [], []⟩,
  ⟨31, true, .faddr 0, [.s 3], (some (29, false)), [], []⟩,
  ⟨32, true, .load none, [.s 31], (some (29, false)), [], []⟩,
  ⟨33, true, .iaddr 4, [.s 30, .s 32], (some (29, false)), [], []⟩,
  ⟨34, true, .load (some 4), [.s 33], (some (29, false)), [], []⟩,
  ⟨35, true, .call 94, [.s 34], (some (29, false)), [], []⟩,
  ⟨36, true, .un .not, [.s 35], (some (29, false)), [], []⟩,
  ⟨37, true, .pick, [.s 29, .c (.bool true), .s 36], none, [], []⟩])
 (.cond (.s 37) (.seq (.reg [
  ⟨38, true, .load (some 11), [.s 3], none, [], []⟩,
  ⟨39, true, .build [(.int .i64 0), (.int .i64 0), (.int .i64 0), (.int .i64 0)] [], [], none, [], []⟩,
  ⟨501, false, .store 11, [.s 4, .s 38], none, [], []⟩,
  ⟨502, false, .store 4, [.s 5, .s 39], none, [], []⟩,
  ⟨6, true, .mv, [.c (.bool false)], none, [], []⟩])
 .ret)
 .skip))
 (.seq (.reg [
  ⟨40, true, .mv, [.s 0], none, [], []⟩,
  ⟨41, true, .faddr 0, [.s 3], none, [], []⟩,
  ⟨42, true, .load none, [.s 41], none, [], []⟩,
  ⟨43, true, .iaddr 4, [.s 40, .s 42], none, [], []⟩,
  ⟨44, true, .load (some 4), [.s 43], none, [], []⟩,
  ⟨7, true, .zero [(.int .i64 0), (.int .i64 0), (.int .i64 0), (.int .i64 0)], [], none, [], []⟩,
  ⟨503, false, .store 4, [.s 7, .s 44], none, [], []⟩])
 (.seq (.reg [
  ⟨45, true, .faddr 0, [.s 3], none, [], []⟩,
  ⟨46, true, .load none, [.s 45], none, [], []⟩,
  ⟨47, true, .bin .add, [.s 46, .c (.int .i64 1)], none, [], []⟩,
  ⟨8, true, .mv, [.s 47], none, [], []⟩])
 (.seq (.seq (.reg [
  ⟨48, true, .faddr 0, [.s 7], none, [], []⟩,
  ⟨49, true, .load none, [.s 48], none, [], []⟩])
 (.block 0 (.seq (.reg [
  ⟨51, true, .bin .eql, [.s 49, .c (.int .i64 0)], none, [], []⟩,
  ⟨50, true, .mv, [.s 51], none, [], []⟩])
 (.cond (.s 50) (.seq (.reg [
  ⟨52, true, .faddr 10, [.s 3], none, [], []⟩,
  ⟨504, false, .store 1, [.s 52, .c (.bool true)], none, [], []⟩])
 (.reg [
  ⟨53, true, .faddr 0, [.s 3], none, [], []⟩,
  ⟨54, true, .load none, [.s 53], none, [], []⟩,
  ⟨8, true, .mv, [.s 54], none, [], []⟩]))
 (.seq (.reg [
  ⟨56, true, .bin .eql, [.s 49, .c (.int .i64 1)], none, [], []⟩,
  ⟨55, true, .mv, [.s 56], none, [], []⟩])
 (.cond (.s 55) (.reg [
  ⟨57, true, .faddr 1, [.s 7], none, [], []⟩,
  ⟨58, true, .load none, [.s 57], none, [], []⟩,
  ⟨59, true, .faddr 3, [.s 7], none, [], []⟩,
  ⟨60, true, .load none, [.s 59], none, [], []⟩,
  ⟨61, true, .faddr 1, [.s 3], none, [], []⟩,
  ⟨62, true, .iaddrA 8 1, [.s 61, .s 58], none, [], []⟩,
  ⟨505, false, .store 1, [.s 62, .s 60], none, [], []⟩])
 (.seq (.reg [
  ⟨64, true, .bin .eql, [.s 49, .c (.int .i64 2)], none, [], []⟩,
  ⟨63, true, .mv, [.s 64], none, [], []⟩])
 (.cond (.s 63) (.drw [
  ⟨65, true, .faddr 1, [.s 7], none, [], []⟩,
  ⟨66, true, .load none, [.s 65], none, [7], []⟩,
  ⟨67, true, .faddr 1, [.s 7], none, [], []⟩,
  ⟨68, true, .load none, [.s 67], none, [7], []⟩,
  ⟨69, true, .faddr 1, [.s 3], none, [], []⟩,
  ⟨70, true, .iaddrA 8 1, [.s 69, .s 68], none, [], []⟩,
  ⟨71, true, .load none, [.s 70], none, [3], []⟩,
  ⟨72, true, .faddr 2, [.s 7], none, [], []⟩,
  ⟨73, true, .load none, [.s 72], none, [7], []⟩,
  ⟨74, true, .faddr 1, [.s 3], none, [], []⟩,
  ⟨75, true, .iaddrA 8 1, [.s 74, .s 73], none, [], []⟩,
  ⟨76, true, .load none, [.s 75], none, [3], []⟩,
  ⟨77, true, .bin .add, [.s 71, .s 76], none, [], []⟩,
  ⟨78, true, .faddr 1, [.s 3], none, [], []⟩,
  ⟨79, true, .iaddrA 8 1, [.s 78, .s 66], none, [], []⟩,
  ⟨506, false, .store 1, [.s 79, .s 77], none, [3], [3]⟩])
 (.seq (.reg [
  ⟨81, true, .bin .eql, [.s 49, .c (.int .i64 3)], none, [], []⟩,
  ⟨80, true, .mv, [.s 81], none, [], []⟩])
 (.cond (.s 80) (.drw [
  ⟨82, true, .faddr 1, [.s 7], none, [], []⟩,
  ⟨83, true, .load none, [.s 82], none, [7], []⟩,
  ⟨84, true, .faddr 1, [.s 7], none, [], []⟩,
  ⟨85, true, .load none, [.s 84], none, [7], []⟩,
  ⟨86, true, .faddr 1, [.s 3], none, [], []⟩,
  ⟨87, true, .iaddrA 8 1, [.s 86, .s 85], none, [], []⟩,
  ⟨88, true, .load none, [.s 87], none, [3], []⟩,
  ⟨89, true, .faddr 2, [.s 7], none, [], []⟩,
  ⟨90, true, .load none, [.s 89], none, [7], []⟩,
  ⟨91, true, .faddr 1, [.s 3], none, [], []⟩,
  ⟨92, true, .iaddrA 8 1, [.s 91, .s 90], none, [], []⟩,
  ⟨93, true, .load none, [.s 92], none, [3], []⟩,
  ⟨94, true, .bin .sub, [.s 88, .s 93], none, [], []⟩,
  ⟨95, true, .faddr 1, [.s 3], none, [], []⟩,
  ⟨96, true, .iaddrA 8 1, [.s 95, .s 83], none, [], []⟩,
  ⟨507, false, .store 1, [.s 96, .s 94], none, [3], [3]⟩])
 (.seq (.reg [
  ⟨98, true, .bin .eql, [.s 49, .c (.int .i64 4)], none, [], []⟩,
  ⟨97, true, .mv, [.s 98], none, [], []⟩])
 (.cond (.s 97) (.drw [
  ⟨99, true, .faddr 1, [.s 7], none, [], []⟩,
  ⟨100, true, .load none, [.s 99], none, [7], []⟩,
  ⟨101, true, .faddr 1, [.s 7], none, [], []⟩,
  ⟨102, true, .load none, [.s 101], none, [7], []⟩,
  ⟨103, true, .faddr 1, [.s 3], none, [], []⟩,
  ⟨104, true, .iaddrA 8 1, [.s 103, .s 102], none, [], []⟩,
  ⟨105, true, .load none, [.s 104], none, [3], []⟩,
  ⟨106, true, .faddr 2, [.s 7], none, [], []⟩,
  ⟨107, true, .load none, [.s 106], none, [7], []⟩,
  ⟨108, true, .faddr 1, [.s 3], none, [], []⟩,
  ⟨109, true, .iaddrA 8 1, [.s 108, .s 107], none, [], []⟩,
  ⟨110, true, .load none, [.s 109], none, [3], []⟩,
  ⟨111, true, .bin .mul, [.s 105, .s 110], none, [], []⟩,
  ⟨112, true, .faddr 1, [.s 3], none, [], []⟩,
  ⟨113, true, .iaddrA 8 1, [.s 112, .s 100], none, [], []⟩,
  ⟨508, false, .store 1, [.s 113, .s 111], none, [3], [3]⟩])
 (.seq (.reg [
  ⟨115, true, .bin .eql, [.s 49, .c (.int .i64 5)], none, [], []⟩,
  ⟨114, true, .mv, [.s 115], none, [], []⟩])
 (.cond (.s 114) (.drw [
  ⟨116, true, .faddr 1, [.s 7], none, [], []⟩,
  ⟨117, true, .load none, [.s 116], none, [7], []⟩,
  ⟨118, true, .faddr 1, [.s 7], none, [], []⟩,
  ⟨119, true, .load none, [.s 118], none, [7], []⟩,
  ⟨120, true, .faddr 1, [.s 3], none, [], []⟩,
  ⟨121, true, .iaddrA 8 1, [.s 120, .s 119], none, [], []⟩,
  ⟨122, true, .load none, [.s 121], none, [3], []⟩,
  ⟨123, true, .faddr 3, [.s 7], none, [], []⟩,
  ⟨124, true, .load none, [.s 123], none, [7], []⟩,
  ⟨125, true, .call 298, [.s 122, .s 124], none, [], []⟩,
  ⟨126, true, .faddr 1, [.s 3], none, [], []⟩,
  ⟨127, true, .iaddrA 8 1, [.s 126, .s 117], none, [], []⟩,
  ⟨509, false, .store 1, [.s 127, .s 125], none, [3], [3]⟩])
 (.seq (.reg [
  ⟨129, true, .bin .eql, [.s 49, .c (.int .i64 6)], none, [], []⟩,
  ⟨128, true, .mv, [.s 129], none, [], []⟩])
 (.cond (.s 128) (.drw [
  ⟨130, true, .faddr 1, [.s 7], none, [], []⟩,
  ⟨131, true, .load none, [.s 130], none, [7], []⟩,
  ⟨132, true, .faddr 1, [.s 7], none, [], []⟩,
  ⟨133, true, .load none, [.s 132], none, [7], []⟩,
  ⟨134, true, .faddr 1, [.s 3], none, [], []⟩,
  ⟨135, true, .iaddrA 8 1, [.s 134, .s 133], none, [], []⟩,
  ⟨136, true, .load none, [.s 135], none, [3], []⟩,
  ⟨137, true, .faddr 3, [.s 7], none, [], []⟩,
  ⟨138, true, .load none, [.s 137], none, [7], []⟩,
  ⟨139, true, .call 299, [.s 136, .s 138], none, [], []⟩,
  ⟨140, true, .faddr 1, [.s 3], none, [], []⟩,
  ⟨141, true, .iaddrA 8 1, [.s 140, .s 131], none, [], []⟩,
  ⟨510, false, .store 1, [.s 141, .s 139], none, [3], [3]⟩])
 (.seq (.reg [
  ⟨143, true, .bin .eql, [.s 49, .c (.int .i64 7)], none, [], []⟩,
  ⟨142, true, .mv, [.s 143], none, [], []⟩])
 (.cond (.s 142) (.seq (.reg [
  ⟨144, true, .faddr 1, [.s 7], none, [], []⟩,
  ⟨145, true, .load none, [.s 144], none, [], []⟩,
  ⟨146, true, .faddr 1, [.s 3], none, [], []⟩,
  ⟨147, true, .iaddrA 8 1, [.s 146, .s 145], none, [], []⟩,
  ⟨148, true, .load none, [.s 147], none, [], []⟩,
  ⟨149, true, .bin .eql, [.s 148, .c (.int .i64 0)], none, [], []⟩])
 (.cond (.s 149) (.reg [
  ⟨150, true, .mv, [.s 8], none, [], []⟩,
  ⟨151, true, .faddr 3, [.s 7], none, [], []⟩,
  ⟨152, true, .load none, [.s 151], none, [], []⟩,
  ⟨153, true, .bin .add, [.s 150, .s 152], none, [], []⟩,
  ⟨8, true, .mv, [.s 153], none, [], []⟩])
 .skip))
 (.seq (.reg [
  ⟨155, true, .bin .eql, [.s 49, .c (.int .i64 8)], none, [], []⟩,
  ⟨154, true, .mv, [.s 155], none, [], []⟩])
 (.cond (.s 154) (.reg [
  ⟨156, true, .faddr 9, [.s 3], none, [], []⟩,
  ⟨157, true, .load none, [.s 156], none, [], []⟩,
  ⟨158, true, .mv, [.s 8], none, [], []⟩,
  ⟨159, true, .faddr 0, [.s 3], none, [], []⟩,
  ⟨160, true, .load none, [.s 159], none, [], []⟩,
  ⟨161, true, .faddr 2, [.s 7], none, [], []⟩,
  ⟨162, true, .load none, [.s 161], none, [], []⟩,
  ⟨163, true, .bin .add, [.s 160, .s 162], none, [], []⟩,
  ⟨164, true, .faddr 3, [.s 7], none, [], []⟩,
  ⟨165, true, .load none, [.s 164], none, [], []⟩,
  ⟨166, true, .bin .sub, [.s 165, .c (.int .i64 1)], none, [], []⟩,
  ⟨167, true, .build [(.int .i64 0), (.int .i64 0), (.int .i64 0)] [(0, 1), (1, 1), (2, 1)], [.s 158, .s 163, .s 166], none, [], []⟩,
  ⟨168, true, .buildSl 3 [(.int .i64 0), (.int .i64 0), (.int .i64 0)] 1 [0], [.s 167], none, [], []⟩,
  ⟨169, true, .app 3 24 [(.int .i64 0), (.int .i64 0), (.int .i64 0)], [.s 157, .s 168], none, [], []⟩,
  ⟨170, true, .faddr 9, [.s 3], none, [], []⟩,
  ⟨511, false, .store 1, [.s 170, .s 169], none, [], []⟩])
 .skip))))))))))))))))))))
 (.seq (.reg [
  ⟨171, true, .mv, [.s 8], none, [], []⟩,
  ⟨172, true, .faddr 0, [.s 3], none, [], []⟩,
  ⟨512, false, .store 1, [.s 172, .s 171], none, [], []⟩])
 (.seq (.block 1 (.loop (.seq (.seq (.drw [
  ⟨173, true, .faddr 9, [.s 3], none, [], []⟩,
  ⟨174, true, .load none, [.s 173], none, [3], []⟩,
  ⟨175, true, .len, [.s 174], none, [], []⟩,
  ⟨176, true, .bin .gtr, [.s 175, .c (.int .i64 0)], none, [], []⟩,
  ⟨177, true, .mv, [.s 176], none, [], []⟩,
  ⟨178, true, .faddr 9, [.s 3], (some (177, true)), [], []⟩,
  ⟨179, true, .load none, [.s 178], (some (177, true)), [3], []⟩,
  ⟨180, true, .faddr 9, [.s 3], (some (177, true)), [], []⟩,
  ⟨181, true, .load none, [.s 180], (some (177, true)), [3], []⟩,
  ⟨182, true, .len, [.s 181], (some (177, true)), [], []⟩,
  ⟨183, true, .bin .sub, [.s 182, .c (.int .i64 1)], (some (177, true)), [], []⟩,
  ⟨184, true, .iaddr 3, [.s 179, .s 183], (some (177, true)), [10, 13, 168, 169, 217, 218], []⟩,
  ⟨185, true, .faddr 1, [.s 184], (some (177, true)), [], []⟩,
  ⟨186, true, .load none, [.s 185], (some (177, true)), [10, 13, 168, 169, 217, 218], []⟩,
  ⟨187, true, .faddr 0, [.s 3], (some (177, true)), [], []⟩,
  ⟨188, true, .load none, [.s 187], (some (177, true)), [3], []⟩,
  ⟨189, true, .bin .lss, [.s 186, .s 188], (some (177, true)), [], []⟩,
  ⟨190, true, .pick, [.s 177, .s 189, .c (.bool false)], none, [], []⟩])
 (.cond (.s 190) .skip
 (.exit 1)))
 (.block 2 (.seq (.reg [
  ⟨191, true, .faddr 9, [.s 3], none, [], []⟩,
  ⟨192, true, .load none, [.s 191], none, [], []⟩,
  ⟨193, true, .faddr 9, [.s 3], none, [], []⟩,
  ⟨194, true, .load none, [.s 193], none, [], []⟩,
  ⟨195, true, .len, [.s 194], none, [], []⟩,
  ⟨196, true, .bin .sub, [.s 195, .c (.int .i64 1)], none, [], []⟩,
  ⟨197, true, .iaddr 3, [.s 192, .s 196], none, [], []⟩,
  ⟨198, true, .load (some 3), [.s 197], none, [], []⟩,
  ⟨9, true, .zero [(.int .i64 0), (.int .i64 0), (.int .i64 0)], [], none, [], []⟩,
  ⟨513, false, .store 3, [.s 9, .s 198], none, [], []⟩])
 (.seq (.reg [
  ⟨199, true, .faddr 9, [.s 3], none, [], []⟩,
  ⟨200, true, .load none, [.s 199], none, [], []⟩,
  ⟨201, true, .faddr 9, [.s 3], none, [], []⟩,
  ⟨202, true, .load none, [.s 201], none, [], []⟩,
  ⟨203, true, .len, [.s 202], none, [], []⟩,
  ⟨204, true, .bin .sub, [.s 203, .c (.int .i64 1)], none, [], []⟩,
  ⟨205, true, .slice 3 false true, [.s 200, .s 204], none, [], []⟩,
  ⟨206, true, .faddr 9, [.s 3], none, [], []⟩,
  ⟨514, false, .store 1, [.s 206, .s 205], none, [], []⟩])
 (.seq (.reg [
  ⟨207, true, .faddr 2, [.s 9], none, [], []⟩,
  ⟨208, true, .load none, [.s 207], none, [], []⟩,
  ⟨209, true, .bin .gtr, [.s 208, .c (.int .i64 0)], none, [], []⟩])
 (.cond (.s 209) (.seq (.reg [
  ⟨210, true, .faddr 2, [.s 9], none, [], []⟩,
  ⟨211, true, .load none, [.s 210], none, [], []⟩,
  ⟨212, true, .bin .sub, [.s 211, .c (.int .i64 1)], none, [], []⟩,
  ⟨213, true, .faddr 2, [.s 9], none, [], []⟩,
  ⟨515, false, .store 1, [.s 213, .s 212], none, [], []⟩])
 (.seq (.reg [
  ⟨214, true, .faddr 9, [.s 3], none, [], []⟩,
  ⟨215, true, .load none, [.s 214], none, [], []⟩,
  ⟨216, true, .load (some 3), [.s 9], none, [], []⟩,
  ⟨217, true, .buildSl 3 [(.int .i64 0), (.int .i64 0), (.int .i64 0)] 1 [0], [.s 216], none, [], []⟩,
  ⟨218, true, .app 3 24 [(.int .i64 0), (.int .i64 0), (.int .i64 0)], [.s 215, .s 217], none, [], []⟩,
  ⟨219, true, .faddr 9, [.s 3], none, [], []⟩,
  ⟨516, false, .store 1, [.s 219, .s 218], none, [], []⟩])
 (.seq (.reg [
  ⟨220, true, .faddr 0, [.s 9], none, [], []⟩,
  ⟨221, true, .load none, [.s 220], none, [], []⟩,
  ⟨222, true, .faddr 0, [.s 3], none, [], []⟩,
  ⟨517, false, .store 1, [.s 222, .s 221], none, [], []⟩])
 (.exit 1))))
 .skip))))))))
 (.seq (.drw [
  ⟨223, true, .load (some 11), [.s 3], none, [3], []⟩,
  ⟨224, true, .load (some 4), [.s 7], none, [7], []⟩,
  ⟨518, false, .store 11, [.s 4, .s 223], none, [4, 10, 13, 168, 169, 217, 218], [4, 10, 13, 168, 169, 217, 218]⟩,
  ⟨519, false, .store 4, [.s 5, .s 224], none, [5], [5]⟩,
  ⟨6, true, .mv, [.c (.bool true)], none, [], []⟩])
 .ret)))))))))
def F245 : AFun where
  n := 19
  res := [.tmp 4]
  code := (.seq (.reg [
  ⟨2, true, .box 6, [.s 0], none, [], []⟩,
  ⟨3, true, .box 28, [.s 1], none, [], []⟩,
  ⟨4, true, .mv, [.c (.e true)], none, [], []⟩])
 (.seq (.seq (.reg [
  ⟨5, true, .faddr 3, [.s 3], none, [], []⟩,
  ⟨6, true, .load none, [.s 5], none, [], []⟩])
 (.block 0 (.seq (.reg [
  ⟨8, true, .bin .eql, [.s 6, .c (.int .i64 0)], none, [], []⟩,
  ⟨7, true, .mv, [.s 8], none, [], []⟩])
 (.cond (.s 7) (.seq (.reg [
  ⟨9, true, .faddr 3, [.s 2], none, [], []⟩,
  ⟨10, true, .load none, [.s 9], none, [], []⟩,
  ⟨4, true, .mv, [.s 10], none, [], []⟩])
 .ret)
 (.seq (.reg [
  ⟨12, true, .bin .eql, [.s 6, .c (.int .i64 1)], none, [], []⟩,
  ⟨11, true, .mv, [.s 12], none, [], []⟩])
 (.cond (.s 11) (.seq (.reg [
  ⟨13, true, .faddr 4, [.s 2], none, [], []⟩,
  ⟨14, true, .load none, [.s 13], none, [], []⟩,
  ⟨4, true, .mv, [.s 14], none, [], []⟩])
 .ret)
 (.seq (.reg [
  ⟨16, true, .bin .eql, [.s 6, .c (.int .i64 2)], none, [], []⟩,
  ⟨15, true, .mv, [.s 16], none, [], []⟩])
 (.cond (.s 15) (.seq (.reg [
  ⟨17, true, .faddr 5, [.s 2], none, [], []⟩,
  ⟨18, true, .load none, [.s 17], none, [], []⟩,
  ⟨4, true, .mv, [.s 18], none, [], []⟩])
 .ret)
 .skip))))))))
 (.seq (.reg [
  ⟨4, true, .mv, [.c (.e true)], none, [], []⟩])
 .ret)))
def F270 : AFun := cloneOf 2 16 [(.int .i64 0), (.int .i64 0)]
def F271 : AFun where
  n := 24
  res := [.tmp 6]
  code := (.seq (.reg [
  ⟨6, true, .mv, [.c (.bool false)], none, [], []⟩])
 (.seq (.reg [
  ⟨7, true, .mv, [.s 0], none, [], []⟩,
  ⟨8, true, .mv, [.s 1], none, [], []⟩,
  ⟨9, true, .call 286, [.s 7, .s 8], none, [], []⟩,
  ⟨10, true, .mv, [.s 9], none, [], []⟩,
  ⟨11, true, .mv, [.s 2], (some (10, true)), [], []⟩,
  ⟨12, true, .bin .geq, [.s 11, .c (.int .i64 0)], (some (10, true)), [], []⟩,
  ⟨13, true, .pick, [.s 10, .s 12, .c (.bool false)], none, [], []⟩,
  ⟨14, true, .mv, [.s 13], none, [], []⟩,
  ⟨15, true, .mv, [.s 0], (some (14, true)), [], []⟩,
  ⟨16, true, .mv, [.s 1], (some (14, true)), [], []⟩,
  ⟨17, true, .iaddr 2, [.s 15, .s 16], (some (14, true)), [], []⟩,
  ⟨18, true, .faddr 1, [.s 17], (some (14, true)), [], []⟩,
  ⟨19, true, .load none, [.s 18], (some (14, true)), [], []⟩,
  ⟨20, true, .mv, [.s 2], (some (14, true)), [], []⟩,
  ⟨21, true, .bin .add, [.s 20, .c (.int .i64 1)], (some (14, true)), [], []⟩,
  ⟨22, true, .bin .eql, [.s 19, .s 21], (some (14, true)), [], []⟩,
  ⟨23, true, .pick, [.s 14, .s 22, .c (.bool false)], none, [], []⟩,
  ⟨6, true, .mv, [.s 23], none, [], []⟩])
 .ret))
def F274 : AFun where
  n := 19
  res := [.tmp 4]
  code := (.seq (.reg [
  ⟨4, true, .mv, [.c (.int .i64 0)], none, [], []⟩])
 (.seq (.seq (.reg [
  ⟨6, true, .mv, [.s 0], none, [], []⟩,
  ⟨7, true, .len, [.s 6], none, [], []⟩,
  ⟨8, true, .mv, [.c (.int .i64 0)], none, [], []⟩])
 (.block 0 (.loop (.seq (.reg [
  ⟨9, true, .bin .lss, [.s 8, .s 7], none, [], []⟩])
 (.seq (.cond (.s 9) .skip
 (.exit 0))
 (.seq (.block 1 (.seq (.reg [
  ⟨10, true, .mv, [.s 8], none, [], []⟩,
  ⟨5, true, .mv, [.s 10], none, [], []⟩])
 (.seq (.reg [
  ⟨11, true, .mv, [.s 1], none, [], []⟩,
  ⟨12, true, .mv, [.s 0], none, [], []⟩,
  ⟨13, true, .mv, [.s 5], none, [], []⟩,
  ⟨14, true, .iaddr 1, [.s 12, .s 13], none, [], []⟩,
  ⟨15, true, .load none, [.s 14], none, [], []⟩,
  ⟨16, true, .callv, [.s 11, .s 15], none, [], []⟩])
 (.cond (.s 16) (.seq (.reg [
  ⟨17, true, .mv, [.s 5], none, [], []⟩,
  ⟨4, true, .mv, [.s 17], none, [], []⟩])
 .ret)
 .skip))))
 (.reg [
  ⟨18, true, .bin .add, [.s 8, .c (.int .i64 1)], none, [], []⟩,
  ⟨8, true, .mv, [.s 18], none, [], []⟩])))))))
 (.seq (.reg [
  ⟨4, true, .mv, [.c (.int .i64 (-1))], none, [], []⟩])
 .ret)))
def F281 : AFun where
  n := 16
  res := [.cell 2 (some 28)]
  code := (.seq (.reg [
  ⟨1, true, .box 28, [.s 0], none, [], []⟩,
  ⟨2, true, .zero [(.int .i64 0), (.int .i64 0), (.int .i64 0), (.int .i64 0), (.int .i64 0), (.int .i64 0), (.int .i64 0), (.int .i64 0), (.int .i64 0), (.int .i64 0), (.int .i64 0), (.int .i64 0), (.int .i64 0), (.e true), (.bool false), (.int .i64 0), (.int .i64 0), (.int .i64 0), (.int .i64 0), (.int .i64 0), (.int .i64 0), (.int .i64 0), (.int .i64 0), (.int .i64 0), (.e true), (.bool false), (.e true), (.bool false)], [], none, [], []⟩])
 (.seq (.drw [
  ⟨3, true, .faddr 4, [.s 1], none, [], []⟩,
  ⟨4, true, .load (some 11), [.s 3], none, [1], []⟩,
  ⟨5, true, .call 284, [.s 4], none, [5, 8, 11], [5, 8, 11]⟩,
  ⟨6, true, .faddr 15, [.s 1], none, [], []⟩,
  ⟨7, true, .load (some 11), [.s 6], none, [1], []⟩,
  ⟨8, true, .call 284, [.s 7], none, [5, 8, 11], [5, 8, 11]⟩,
  ⟨9, true, .faddr 26, [.s 1], none, [], []⟩,
  ⟨10, true, .load none, [.s 9], none, [1], []⟩,
  ⟨11, true, .call 137, [.s 10], none, [5, 8, 11], [5, 8, 11]⟩,
  ⟨12, true, .faddr 4, [.s 1], none, [], []⟩,
  ⟨500, false, .store 11, [.s 12, .s 5], none, [1, 5], [1, 5]⟩,
  ⟨13, true, .faddr 15, [.s 1], none, [], []⟩,
  ⟨501, false, .store 11, [.s 13, .s 8], none, [1, 8], [1, 8]⟩,
  ⟨14, true, .faddr 26, [.s 1], none, [], []⟩,
  ⟨502, false, .store 1, [.s 14, .s 11], none, [1, 11], [1, 11]⟩])
 (.seq (.reg [
  ⟨15, true, .load (some 28), [.s 1], none, [], []⟩,
  ⟨503, false, .store 28, [.s 2, .s 15], none, [], []⟩])
 .ret)))
def F284 : AFun where
  n := 8
  res := [.cell 2 (some 11)]
  code := (.seq (.reg [
  ⟨1, true, .box 11, [.s 0], none, [], []⟩,
  ⟨2, true, .zero [(.int .i64 0), (.int .i64 0), (.int .i64 0), (.int .i64 0), (.int .i64 0), (.int .i64 0), (.int .i64 0), (.int .i64 0), (.int .i64 0), (.e true), (.bool false)], [], none, [], []⟩])
 (.seq (.reg [
  ⟨3, true, .faddr 9, [.s 1], none, [], []⟩,
  ⟨4, true, .load none, [.s 3], none, [], []⟩,
  ⟨5, true, .call 136, [.s 4], none, [], []⟩,
  ⟨6, true, .faddr 9, [.s 1], none, [], []⟩,
  ⟨500, false, .store 1, [.s 6, .s 5], none, [], []⟩])
 (.seq (.reg [
  ⟨7, true, .load (some 11), [.s 1], none, [], []⟩,
  ⟨501, false, .store 11, [.s 2, .s 7], none, [], []⟩])
 .ret)))
def F286 : AFun where
  n := 13
  res := [.tmp 4]
  code := (.seq (.reg [
  ⟨4, true, .mv, [.c (.bool false)], none, [], []⟩])
 (.seq (.reg [
  ⟨5, true, .mv, [.s 1], none, [], []⟩,
  ⟨6, true, .bin .geq, [.s 5, .c (.int .i64 0)], none, [], []⟩,
  ⟨7, true, .mv, [.s 6], none, [], []⟩,
  ⟨8, true, .mv, [.s 1], (some (7, true)), [], []⟩,
  ⟨9, true, .mv, [.s 0], (some (7, true)), [], []⟩,
  ⟨10, true, .len, [.s 9], (some (7, true)), [], []⟩,
  ⟨11, true, .bin .lss, [.s 8, .s 10], (some (7, true)), [], []⟩,
  ⟨12, true, .pick, [.s 7, .s 11, .c (.bool false)], none, [], []⟩,
  ⟨4, true, .mv, [.s 12], none, [], []⟩])
 .ret))
def F288 : AFun where
  n := 33
  res := [.cell 4 (some 28)]
  code := (.seq (.reg [
  ⟨2, true, .box 6, [.s 0], none, [], []⟩,
  ⟨3, true, .box 28, [.s 1], none, [], []⟩,
  ⟨4, true, .zero [(.int .i64 0), (.int .i64 0), (.int .i64 0), (.int .i64 0), (.int .i64 0), (.int .i64 0), (.int .i64 0), (.int .i64 0), (.int .i64 0), (.int .i64 0), (.int .i64 0), (.int .i64 0), (.int .i64 0), (.e true), (.bool false), (.int .i64 0), (.int .i64 0), (.int .i64 0), (.int .i64 0), (.int .i64 0), (.int .i64 0), (.int .i64 0), (.int .i64 0), (.int .i64 0), (.e true), (.bool false), (.e true), (.bool false)], [], none, [], []⟩])
 (.seq (.reg [
  ⟨6, true, .load (some 28), [.s 3], none, [], []⟩,
  ⟨7, true, .call 281, [.s 6], none, [], []⟩,
  ⟨5, true, .zero [(.int .i64 0), (.int .i64 0), (.int .i64 0), (.int .i64 0), (.int .i64 0), (.int .i64 0), (.int .i64 0), (.int .i64 0), (.int .i64 0), (.int .i64 0), (.int .i64 0), (.int .i64 0), (.int .i64 0), (.e true), (.bool false), (.int .i64 0), (.int .i64 0), (.int .i64 0), (.int .i64 0), (.int .i64 0), (.int .i64 0), (.int .i64 0), (.int .i64 0), (.int .i64 0), (.e true), (.bool false), (.e true), (.bool false)], [], none, [], []⟩,
  ⟨500, false, .store 28, [.s 5, .s 7], none, [], []⟩])
 (.seq (.reg [
  ⟨8, true, .faddr 26, [.s 5], none, [], []⟩,
  ⟨501, false, .store 1, [.s 8, .c (.e true)], none, [], []⟩])
 (.seq (.seq (.reg [
  ⟨9, true, .faddr 3, [.s 3], none, [], []⟩,
  ⟨10, true, .load none, [.s 9], none, [], []⟩,
  ⟨11, true, .bin .eql, [.s 10, .c (.int .i64 0)], none, [], []⟩,
  ⟨12, true, .mv, [.s 11], none, [], []⟩,
  ⟨13, true, .faddr 4, [.s 2], (some (12, true)), [], []⟩,
  ⟨14, true, .load none, [.s 13], (some (12, true)), [], []⟩,
  ⟨15, true, .len, [.s 14], (some (12, true)), [], []⟩,
  ⟨16, true, .bin .gtr, [.s 15, .c (.int .i64 0)], (some (12, true)), [], []⟩,
  ⟨17, true, .pick, [.s 12, .s 16, .c (.bool false)], none, [], []⟩])
 (.cond (.s 17) (.seq (.drw [
  ⟨18, true, .faddr 2, [.s 3], none, [], []⟩,
  ⟨19, true, .load none, [.s 18], none, [3], []⟩,
  ⟨20, true, .call 155, [.s 19], none, [], []⟩,
  ⟨21, true, .faddr 2, [.s 3], none, [], []⟩,
  ⟨22, true, .load none, [.s 21], none, [3], []⟩,
  ⟨23, true, .call 155, [.s 22], none, [], []⟩,
  ⟨24, true, .faddr 3, [.s 5], none, [], []⟩,
  ⟨502, false, .store 1, [.s 24, .c (.int .i64 1)], none, [5], [5]⟩,
  ⟨25, true, .faddr 4, [.s 5], none, [], []⟩,
  ⟨503, false, .store 11, [.s 25, .s 20], none, [5, 20], [5, 20]⟩,
  ⟨26, true, .faddr 15, [.s 5], none, [], []⟩,
  ⟨504, false, .store 11, [.s 26, .s 23], none, [5, 23], [5, 23]⟩])
 (.seq (.reg [
  ⟨27, true, .load (some 28), [.s 5], none, [], []⟩,
  ⟨505, false, .store 28, [.s 4, .s 27], none, [], []⟩])
 .ret))
 .skip))
 (.seq (.reg [
  ⟨28, true, .faddr 15, [.s 3], none, [], []⟩,
  ⟨29, true, .load (some 11), [.s 28], none, [], []⟩,
  ⟨30, true, .call 284, [.s 29], none, [], []⟩,
  ⟨31, true, .faddr 4, [.s 5], none, [], []⟩,
  ⟨506, false, .store 11, [.s 31, .s 30], none, [], []⟩])
 (.seq (.reg [
  ⟨32, true, .load (some 28), [.s 5], none, [], []⟩,
  ⟨507, false, .store 28, [.s 4, .s 32], none, [], []⟩])
 .ret))))))
def F298 : AFun where
  n := 35
  res := [.tmp 4]
  code := (.seq (.reg [
  ⟨4, true, .mv, [.c (.int .i64 0)], none, [], []⟩])
 (.seq (.seq (.reg [
  ⟨5, true, .mv, [.s 1], none, [], []⟩,
  ⟨6, true, .bin .lss, [.s 5, .c (.int .i64 (-63))], none, [], []⟩,
  ⟨7, true, .mv, [.s 6], none, [], []⟩,
  ⟨8, true, .mv, [.s 1], (some (7, false)), [], []⟩,
  ⟨9, true, .bin .gtr, [.s 8, .c (.int .i64 63)], (some (7, false)), [], []⟩,
  ⟨10, true, .pick, [.s 7, .c (.bool true), .s 9], none, [], []⟩])
 (.cond (.s 10) (.seq (.reg [
  ⟨11, true, .mv, [.s 0], none, [], []⟩,
  ⟨4, true, .mv, [.s 11], none, [], []⟩])
 .ret)
 .skip))
 (.seq (.block 0 (.loop (.seq (.seq (.reg [
  ⟨12, true, .mv, [.s 1], none, [], []⟩,
  ⟨13, true, .bin .gtr, [.s 12, .c (.int .i64 0)], none, [], []⟩])
 (.cond (.s 13) .skip
 (.exit 0)))
 (.seq (.block 1 (.reg [
  ⟨16, true, .mv, [.s 0], none, [], []⟩,
  ⟨17, true, .bin .mul, [.s 16, .c (.int .i64 2)], none, [], []⟩,
  ⟨0, true, .mv, [.s 17], none, [], []⟩]))
 (.reg [
  ⟨14, true, .mv, [.s 1], none, [], []⟩,
  ⟨15, true, .bin .sub, [.s 14, .c (.int .i64 1)], none, [], []⟩,
  ⟨1, true, .mv, [.s 15], none, [], []⟩])))))
 (.seq (.block 2 (.loop (.seq (.seq (.reg [
  ⟨18, true, .mv, [.s 1], none, [], []⟩,
  ⟨19, true, .bin .lss, [.s 18, .c (.int .i64 0)], none, [], []⟩])
 (.cond (.s 19) .skip
 (.exit 2)))
 (.seq (.block 3 (.seq (.reg [
  ⟨22, true, .mv, [.s 0], none, [], []⟩,
  ⟨23, true, .bin .lss, [.s 22, .c (.int .i64 0)], none, [], []⟩,
  ⟨24, true, .mv, [.s 23], none, [], []⟩,
  ⟨25, true, .mv, [.s 0], (some (24, true)), [], []⟩,
  ⟨26, true, .bin .rem, [.s 25, .c (.int .i64 2)], (some (24, true)), [], []⟩,
  ⟨27, true, .bin .neq, [.s 26, .c (.int .i64 0)], (some (24, true)), [], []⟩,
  ⟨28, true, .pick, [.s 24, .s 27, .c (.bool false)], none, [], []⟩])
 (.cond (.s 28) (.reg [
  ⟨29, true, .mv, [.s 0], none, [], []⟩,
  ⟨30, true, .bin .quo, [.s 29, .c (.int .i64 2)], none, [], []⟩,
  ⟨31, true, .bin .sub, [.s 30, .c (.int .i64 1)], none, [], []⟩,
  ⟨0, true, .mv, [.s 31], none, [], []⟩])
 (.reg [
  ⟨32, true, .mv, [.s 0], none, [], []⟩,
  ⟨33, true, .bin .quo, [.s 32, .c (.int .i64 2)], none, [], []⟩,
  ⟨0, true, .mv, [.s 33], none, [], []⟩]))))
 (.reg [
  ⟨20, true, .mv, [.s 1], none, [], []⟩,
  ⟨21, true, .bin .add, [.s 20, .c (.int .i64 1)], none, [], []⟩,
  ⟨1, true, .mv, [.s 21], none, [], []⟩])))))
 (.seq (.reg [
  ⟨34, true, .mv, [.s 0], none, [], []⟩,
  ⟨4, true, .mv, [.s 34], none, [], []⟩])
 .ret)))))
def F299 : AFun where
  n := 31
  res := [.tmp 4]
  code := (.seq (.reg [
  ⟨4, true, .mv, [.c (.int .i64 0)], none, [], []⟩])
 (.seq (.seq (.reg [
  ⟨6, true, .mv, [.s 1], none, [], []⟩,
  ⟨7, true, .bin .lss, [.s 6, .c (.int .i64 1)], none, [], []⟩,
  ⟨8, true, .mv, [.s 7], none, [], []⟩,
  ⟨9, true, .mv, [.s 1], (some (8, false)), [], []⟩,
  ⟨10, true, .bin .gtr, [.s 9, .c (.int .i64 63)], (some (8, false)), [], []⟩,
  ⟨11, true, .pick, [.s 8, .c (.bool true), .s 10], none, [], []⟩])
 (.cond (.s 11) (.seq (.reg [
  ⟨12, true, .mv, [.s 0], none, [], []⟩,
  ⟨4, true, .mv, [.s 12], none, [], []⟩])
 .ret)
 .skip))
 (.seq (.reg [
  ⟨13, true, .mv, [.s 0], none, [], []⟩,
  ⟨14, true, .conv .u64, [.s 13], none, [], []⟩,
  ⟨15, true, .mv, [.s 1], none, [], []⟩,
  ⟨16, true, .call 330, [.s 15], none, [], []⟩,
  ⟨17, true, .bin .rem, [.s 14, .s 16], none, [], []⟩,
  ⟨5, true, .mv, [.s 17], none, [], []⟩])
 (.seq (.seq (.reg [
  ⟨18, true, .mv, [.s 5], none, [], []⟩,
  ⟨19, true, .mv, [.s 1], none, [], []⟩,
  ⟨20, true, .bin .sub, [.s 19, .c (.int .i64 1)], none, [], []⟩,
  ⟨21, true, .call 330, [.s 20], none, [], []⟩,
  ⟨22, true, .bin .geq, [.s 18, .s 21], none, [], []⟩])
 (.cond (.s 22) (.seq (.reg [
  ⟨23, true, .mv, [.s 1], none, [], []⟩,
  ⟨24, true, .call 330, [.s 23], none, [], []⟩,
  ⟨25, true, .mv, [.s 5], none, [], []⟩,
  ⟨26, true, .bin .sub, [.s 24, .s 25], none, [], []⟩,
  ⟨27, true, .conv .i64, [.s 26], none, [], []⟩,
  ⟨28, true, .un .neg, [.s 27], none, [], []⟩,
  ⟨4, true, .mv, [.s 28], none, [], []⟩])
 .ret)
 .skip))
 (.seq (.reg [
  ⟨29, true, .mv, [.s 5], none, [], []⟩,
  ⟨30, true, .conv .i64, [.s 29], none, [], []⟩,
  ⟨4, true, .mv, [.s 30], none, [], []⟩])
 .ret)))))
def F330 : AFun where
  n := 11
  res := [.tmp 2]
  code := (.seq (.reg [
  ⟨2, true, .mv, [.c (.int .u64 0)], none, [], []⟩])
 (.seq (.reg [
  ⟨3, true, .mv, [.c (.int .u64 1)], none, [], []⟩])
 (.seq (.block 0 (.loop (.seq (.seq (.reg [
  ⟨4, true, .mv, [.s 0], none, [], []⟩,
  ⟨5, true, .bin .gtr, [.s 4, .c (.int .i64 0)], none, [], []⟩])
 (.cond (.s 5) .skip
 (.exit 0)))
 (.seq (.block 1 (.reg [
  ⟨8, true, .mv, [.s 3], none, [], []⟩,
  ⟨9, true, .bin .mul, [.c (.int .u64 2), .s 8], none, [], []⟩,
  ⟨3, true, .mv, [.s 9], none, [], []⟩]))
 (.reg [
  ⟨6, true, .mv, [.s 0], none, [], []⟩,
  ⟨7, true, .bin .sub, [.s 6, .c (.int .i64 1)], none, [], []⟩,
  ⟨0, true, .mv, [.s 7], none, [], []⟩])))))
 (.seq (.reg [
  ⟨10, true, .mv, [.s 3], none, [], []⟩,
  ⟨2, true, .mv, [.s 10], none, [], []⟩])
 .ret))))
def F1003 : AFun where
  n := 119
  res := [.tmp 0]
  code := (.seq (.reg [
  ⟨0, true, .mv, [.c (.bool false)], none, [], []⟩])
 (.seq (.seq (.reg [
  ⟨18, true, .call 1004, [], none, [], []⟩,
  ⟨19, true, .un .not, [.s 18], none, [], []⟩])
 (.cond (.s 19) (.seq (.reg [
  ⟨0, true, .mv, [.c (.bool false)], none, [], []⟩])
 .ret)
 .skip))
 (.seq (.reg [
  ⟨20, true, .build [(.int .i64 0), (.int .i64 0), (.int .i64 0), (.int .i64 0)] [(0, 1)], [.c (.int .i64 0)], none, [], []⟩,
  ⟨1, true, .zero [(.int .i64 0), (.int .i64 0), (.int .i64 0), (.int .i64 0)], [], none, [], []⟩,
  ⟨500, false, .store 4, [.s 1, .s 20], none, [], []⟩])
 (.seq (.reg [
  ⟨21, true, .build [(.int .i64 0), (.int .i64 0), (.int .i64 0), (.int .i64 0)] [(0, 1)], [.c (.int .i64 2)], none, [], []⟩,
  ⟨22, true, .build [(.int .i64 0), (.int .i64 0), (.int .i64 0), (.int .i64 0)] [(0, 1)], [.c (.int .i64 11)], none, [], []⟩,
  ⟨23, true, .build [(.int .i64 0), (.int .i64 0), (.int .i64 0), (.int .i64 0)] [(0, 1)], [.c (.int .i64 2)], none, [], []⟩,
  ⟨24, true, .load (some 4), [.s 1], none, [], []⟩,
  ⟨25, true, .buildSl 4 [(.int .i64 0), (.int .i64 0), (.int .i64 0), (.int .i64 0)] 4 [0, 1, 2, 3], [.s 21, .s 22, .s 23, .s 24], none, [], []⟩,
  ⟨26, true, .build [(.int .i64 0), (.int .i64 0), (.int .i64 0), (.int .i64 0)] [(0, 1)], [.c (.int .i64 2)], none, [], []⟩,
  ⟨27, true, .load (some 4), [.s 1], none, [], []⟩,
  ⟨28, true, .buildSl 4 [(.int .i64 0), (.int .i64 0), (.int .i64 0), (.int .i64 0)] 2 [0, 1], [.s 26, .s 27], none, [], []⟩,
  ⟨29, true, .build [(.int .i64 0), (.int .i64 0), (.int .i64 0), (.e true), (.e true), (.e true)] [(3, 1), (5, 1)], [.s 25, .s 28], none, [], []⟩,
  ⟨2, true, .zero [(.int .i64 0), (.int .i64 0), (.int .i64 0), (.e true), (.e true), (.e true)], [], none, [], []⟩,
  ⟨501, false, .store 6, [.s 2, .s 29], none, [], []⟩])
 (.seq (.reg [
  ⟨30, true, .call 170, [.c (.int .i64 1), .c (.int .i64 0), .c (.int .i64 3)], none, [], []⟩,
  ⟨3, true, .zero [(.int .i64 0), (.int .i64 0), (.int .i64 0), (.int .i64 0), (.int .i64 0), (.int .i64 0), (.int .i64 0), (.int .i64 0), (.int .i64 0), (.int .i64 0), (.int .i64 0), (.int .i64 0), (.int .i64 0), (.e true), (.bool false), (.int .i64 0), (.int .i64 0), (.int .i64 0), (.int .i64 0), (.int .i64 0), (.int .i64 0), (.int .i64 0), (.int .i64 0), (.int .i64 0), (.e true), (.bool false), (.e true), (.bool false)], [], none, [], []⟩,
  ⟨502, false, .store 28, [.s 3, .s 30], none, [], []⟩])
 (.seq (.seq (.reg [
  ⟨4, true, .mv, [.c (.int .i64 0)], none, [], []⟩])
 (.block 0 (.loop (.seq (.seq (.reg [
  ⟨31, true, .mv, [.s 4], none, [], []⟩,
  ⟨32, true, .bin .lss, [.s 31, .c (.int .i64 3)], none, [], []⟩])
 (.cond (.s 32) .skip
 (.exit 0)))
 (.seq (.block 1 (.reg [
  ⟨36, true, .load (some 6), [.s 2], none, [], []⟩,
  ⟨37, true, .load (some 28), [.s 3], none, [], []⟩,
  ⟨38, true, .call 185, [.s 36, .s 37], none, [], []⟩,
  ⟨35, true, .mv, [.s 38], none, [], []⟩,
  ⟨39, true, .extract 0, [.s 35], none, [], []⟩,
  ⟨40, true, .extract 1, [.s 35], none, [], []⟩,
  ⟨41, true, .extract 2, [.s 35], none, [], []⟩,
  ⟨503, false, .store 28, [.s 3, .s 39], none, [], []⟩]))
 (.reg [
  ⟨33, true, .mv, [.s 4], none, [], []⟩,
  ⟨34, true, .bin .add, [.s 33, .c (.int .i64 1)], none, [], []⟩,
  ⟨4, true, .mv, [.s 34], none, [], []⟩]))))))
 (.seq (.reg [
  ⟨43, true, .load (some 6), [.s 2], none, [], []⟩,
  ⟨44, true, .load (some 28), [.s 3], none, [], []⟩,
  ⟨45, true, .call 228, [.s 43, .s 44, .c (.e true)], none, [], []⟩,
  ⟨42, true, .mv, [.s 45], none, [], []⟩,
  ⟨46, true, .extract 0, [.s 42], none, [], []⟩,
  ⟨47, true, .extract 1, [.s 42], none, [], []⟩,
  ⟨48, true, .extract 2, [.s 42], none, [], []⟩,
  ⟨5, true, .zero [(.int .i64 0), (.int .i64 0), (.int .i64 0), (.int .i64 0), (.int .i64 0), (.int .i64 0), (.int .i64 0), (.int .i64 0), (.int .i64 0), (.int .i64 0), (.int .i64 0), (.int .i64 0), (.int .i64 0), (.e true), (.bool false), (.int .i64 0), (.int .i64 0), (.int .i64 0), (.int .i64 0), (.int .i64 0), (.int .i64 0), (.int .i64 0), (.int .i64 0), (.int .i64 0), (.e true), (.bool false), (.e true), (.bool false)], [], none, [], []⟩,
  ⟨504, false, .store 28, [.s 5, .s 46], none, [], []⟩,
  ⟨6, true, .mv, [.s 47], none, [], []⟩,
  ⟨7, true, .mv, [.s 48], none, [], []⟩])
 (.seq (.reg [
  ⟨49, true, .load (some 28), [.s 3], none, [], []⟩,
  ⟨50, true, .call 189, [.s 49], none, [], []⟩,
  ⟨8, true, .zero [(.int .i64 0), (.int .i64 0), (.int .i64 0), (.int .i64 0), (.int .i64 0), (.int .i64 0), (.int .i64 0), (.int .i64 0), (.int .i64 0), (.int .i64 0), (.int .i64 0), (.int .i64 0), (.int .i64 0), (.e true), (.bool false), (.int .i64 0), (.int .i64 0), (.int .i64 0), (.int .i64 0), (.int .i64 0), (.int .i64 0), (.int .i64 0), (.int .i64 0), (.int .i64 0), (.e true), (.bool false), (.e true), (.bool false)], [], none, [], []⟩,
  ⟨505, false, .store 28, [.s 8, .s 50], none, [], []⟩])
 (.seq (.reg [
  ⟨52, true, .load (some 6), [.s 2], none, [], []⟩,
  ⟨53, true, .load (some 28), [.s 8], none, [], []⟩,
  ⟨54, true, .call 228, [.s 52, .s 53, .c (.e true)], none, [], []⟩,
  ⟨51, true, .mv, [.s 54], none, [], []⟩,
  ⟨55, true, .extract 0, [.s 51], none, [], []⟩,
  ⟨56, true, .extract 1, [.s 51], none, [], []⟩,
  ⟨57, true, .extract 2, [.s 51], none, [], []⟩,
  ⟨9, true, .zero [(.int .i64 0), (.int .i64 0), (.int .i64 0), (.int .i64 0), (.int .i64 0), (.int .i64 0), (.int .i64 0), (.int .i64 0), (.int .i64 0), (.int .i64 0), (.int .i64 0), (.int .i64 0), (.int .i64 0), (.e true), (.bool false), (.int .i64 0), (.int .i64 0), (.int .i64 0), (.int .i64 0), (.int .i64 0), (.int .i64 0), (.int .i64 0), (.int .i64 0), (.int .i64 0), (.e true), (.bool false), (.e true), (.bool false)], [], none, [], []⟩,
  ⟨506, false, .store 28, [.s 9, .s 55], none, [], []⟩,
  ⟨10, true, .mv, [.s 56], none, [], []⟩,
  ⟨11, true, .mv, [.s 57], none, [], []⟩])
 (.seq (.reg [
  ⟨58, true, .load (some 4), [.s 1], none, [], []⟩,
  ⟨59, true, .buildSl 4 [(.int .i64 0), (.int .i64 0), (.int .i64 0), (.int .i64 0)] 1 [0], [.s 58], none, [], []⟩,
  ⟨60, true, .faddr 4, [.s 2], none, [], []⟩,
  ⟨507, false, .store 1, [.s 60, .s 59], none, [], []⟩])
 (.seq (.reg [
  ⟨62, true, .load (some 6), [.s 2], none, [], []⟩,
  ⟨63, true, .load (some 28), [.s 3], none, [], []⟩,
  ⟨64, true, .call 228, [.s 62, .s 63, .c (.e true)], none, [], []⟩,
  ⟨61, true, .mv, [.s 64], none, [], []⟩,
  ⟨65, true, .extract 0, [.s 61], none, [], []⟩,
  ⟨66, true, .extract 1, [.s 61], none, [], []⟩,
  ⟨67, true, .extract 2, [.s 61], none, [], []⟩,
  ⟨12, true, .zero [(.int .i64 0), (.int .i64 0), (.int .i64 0), (.int .i64 0), (.int .i64 0), (.int .i64 0), (.int .i64 0), (.int .i64 0), (.int .i64 0), (.int .i64 0), (.int .i64 0), (.int .i64 0), (.int .i64 0), (.e true), (.bool false), (.int .i64 0), (.int .i64 0), (.int .i64 0), (.int .i64 0), (.int .i64 0), (.int .i64 0), (.int .i64 0), (.int .i64 0), (.int .i64 0), (.e true), (.bool false), (.e true), (.bool false)], [], none, [], []⟩,
  ⟨508, false, .store 28, [.s 12, .s 65], none, [], []⟩,
  ⟨13, true, .mv, [.s 66], none, [], []⟩,
  ⟨14, true, .mv, [.s 67], none, [], []⟩])
 (.seq (.reg [
  ⟨69, true, .load (some 6), [.s 2], none, [], []⟩,
  ⟨70, true, .load (some 28), [.s 12], none, [], []⟩,
  ⟨71, true, .call 228, [.s 69, .s 70, .c (.e true)], none, [], []⟩,
  ⟨68, true, .mv, [.s 71], none, [], []⟩,
  ⟨72, true, .extract 0, [.s 68], none, [], []⟩,
  ⟨73, true, .extract 1, [.s 68], none, [], []⟩,
  ⟨74, true, .extract 2, [.s 68], none, [], []⟩,
  ⟨15, true, .zero [(.int .i64 0), (.int .i64 0), (.int .i64 0), (.int .i64 0), (.int .i64 0), (.int .i64 0), (.int .i64 0), (.int .i64 0), (.int .i64 0), (.int .i64 0), (.int .i64 0), (.int .i64 0), (.int .i64 0), (.e true), (.bool false), (.int .i64 0), (.int .i64 0), (.int .i64 0), (.int .i64 0), (.int .i64 0), (.int .i64 0), (.int .i64 0), (.int .i64 0), (.int .i64 0), (.e true), (.bool false), (.e true), (.bool false)], [], none, [], []⟩,
  ⟨509, false, .store 28, [.s 15, .s 72], none, [], []⟩,
  ⟨16, true, .mv, [.s 73], none, [], []⟩,
  ⟨17, true, .mv, [.s 74], none, [], []⟩])
 (.seq (.reg [
  ⟨75, true, .mv, [.s 7], none, [], []⟩,
  ⟨76, true, .bin .eql, [.s 75, .c (.int .i64 6)], none, [], []⟩,
  ⟨77, true, .mv, [.s 76], none, [], []⟩,
  ⟨78, true, .faddr 4, [.s 5], (some (77, true)), [], []⟩,
  ⟨79, true, .faddr 1, [.s 78], (some (77, true)), [], []⟩,
  ⟨80, true, .iaddrA 8 1, [.s 79, .c (.int .i64 0)], (some (77, true)), [], []⟩,
  ⟨81, true, .load none, [.s 80], (some (77, true)), [], []⟩,
  ⟨82, true, .bin .eql, [.s 81, .c (.int .i64 6)], (some (77, true)), [], []⟩,
  ⟨83, true, .pick, [.s 77, .s 82, .c (.bool false)], none, [], []⟩,
  ⟨84, true, .mv, [.s 83], none, [], []⟩,
  ⟨85, true, .faddr 4, [.s 5], (some (84, true)), [], []⟩,
  ⟨86, true, .faddr 0, [.s 85], (some (84, true)), [], []⟩,
  ⟨87, true, .load none, [.s 86], (some (84, true)), [], []⟩,
  ⟨88, true, .bin .eql, [.s 87, .c (.int .i64 2)], (some (84, true)), [], []⟩,
  ⟨89, true, .pick, [.s 84, .s 88, .c (.bool false)], none, [], []⟩,
  ⟨90, true, .mv, [.s 89], none, [], []⟩,
  ⟨91, true, .mv, [.s 11], (some (90, true)), [], []⟩,
  ⟨92, true, .bin .eql, [.s 91, .c (.int .i64 13)], (some (90, true)), [], []⟩,
  ⟨93, true, .pick, [.s 90, .s 92, .c (.bool false)], none, [], []⟩,
  ⟨94, true, .mv, [.s 93], none, [], []⟩,
  ⟨95, true, .load (some 28), [.s 9], (some (94, true)), [], []⟩,
  ⟨96, true, .load (some 28), [.s 8], (some (94, true)), [], []⟩,
  ⟨97, true, .call 60, [.s 95, .s 96], (some (94, true)), [], []⟩,
  ⟨98, true, .pick, [.s 94, .s 97, .c (.bool false)], none, [], []⟩,
  ⟨99, true, .mv, [.s 98], none, [], []⟩,
  ⟨100, true, .mv, [.s 14], (some (99, true)), [], []⟩,
  ⟨101, true, .bin .eql, [.s 100, .c (.int .i64 7)], (some (99, true)), [], []⟩,
  ⟨102, true, .pick, [.s 99, .s 101, .c (.bool false)], none, [], []⟩,
  ⟨103, true, .mv, [.s 102], none, [], []⟩,
  ⟨104, true, .faddr 4, [.s 12], (some (103, true)), [], []⟩,
  ⟨105, true, .faddr 1, [.s 104], (some (103, true)), [], []⟩,
  ⟨106, true, .iaddrA 8 1, [.s 105, .c (.int .i64 0)], (some (103, true)), [], []⟩,
  ⟨107, true, .load none, [.s 106], (some (103, true)), [], []⟩,
  ⟨108, true, .bin .eql, [.s 107, .c (.int .i64 3)], (some (103, true)), [], []⟩,
  ⟨109, true, .pick, [.s 103, .s 108, .c (.bool false)], none, [], []⟩,
  ⟨110, true, .mv, [.s 109], none, [], []⟩,
  ⟨111, true, .mv, [.s 17], (some (110, true)), [], []⟩,
  ⟨112, true, .bin .eql, [.s 111, .c (.int .i64 6)], (some (110, true)), [], []⟩,
  ⟨113, true, .pick, [.s 110, .s 112, .c (.bool false)], none, [], []⟩,
  ⟨114, true, .mv, [.s 113], none, [], []⟩,
  ⟨115, true, .faddr 3, [.s 15], (some (114, true)), [], []⟩,
  ⟨116, true, .load none, [.s 115], (some (114, true)), [], []⟩,
  ⟨117, true, .bin .eql, [.s 116, .c (.int .i64 1)], (some (114, true)), [], []⟩,
  ⟨118, true, .pick, [.s 114, .s 117, .c (.bool false)], none, [], []⟩,
  ⟨0, true, .mv, [.s 118], none, [], []⟩])
 .ret)))))))))))))
def F1004 : AFun where
  n := 69
  res := [.tmp 0]
  code := (.seq (.reg [
  ⟨0, true, .mv, [.c (.bool false)], none, [], []⟩])
 (.seq (.reg [
  ⟨9, true, .build [(.int .i64 0), (.int .i64 0), (.int .i64 0), (.int .i64 0)] [(0, 1)], [.c (.int .i64 0)], none, [], []⟩,
  ⟨10, true, .buildSl 4 [(.int .i64 0), (.int .i64 0), (.int .i64 0), (.int .i64 0)] 1 [0], [.s 9], none, [], []⟩,
  ⟨11, true, .build [(.int .i64 0), (.int .i64 0), (.int .i64 0), (.int .i64 0)] [(0, 1)], [.c (.int .i64 0)], none, [], []⟩,
  ⟨12, true, .buildSl 4 [(.int .i64 0), (.int .i64 0), (.int .i64 0), (.int .i64 0)] 1 [0], [.s 11], none, [], []⟩,
  ⟨13, true, .build [(.int .i64 0), (.int .i64 0), (.int .i64 0), (.e true), (.e true), (.e true)] [(3, 1), (4, 1)], [.s 10, .s 12], none, [], []⟩,
  ⟨1, true, .zero [(.int .i64 0), (.int .i64 0), (.int .i64 0), (.e true), (.e true), (.e true)], [], none, [], []⟩,
  ⟨500, false, .store 6, [.s 1, .s 13], none, [], []⟩])
 (.seq (.reg [
  ⟨14, true, .call 170, [.c (.int .i64 1), .c (.int .i64 0), .c (.int .i64 7)], none, [], []⟩,
  ⟨2, true, .zero [(.int .i64 0), (.int .i64 0), (.int .i64 0), (.int .i64 0), (.int .i64 0), (.int .i64 0), (.int .i64 0), (.int .i64 0), (.int .i64 0), (.int .i64 0), (.int .i64 0), (.int .i64 0), (.int .i64 0), (.e true), (.bool false), (.int .i64 0), (.int .i64 0), (.int .i64 0), (.int .i64 0), (.int .i64 0), (.int .i64 0), (.int .i64 0), (.int .i64 0), (.int .i64 0), (.e true), (.bool false), (.e true), (.bool false)], [], none, [], []⟩,
  ⟨501, false, .store 28, [.s 2, .s 14], none, [], []⟩])
 (.seq (.reg [
  ⟨15, true, .buildSl 1 [(.int .i64 0)] 1 [0], [.c (.int .i64 0)], none, [], []⟩,
  ⟨16, true, .faddr 26, [.s 2], none, [], []⟩,
  ⟨502, false, .store 1, [.s 16, .s 15], none, [], []⟩])
 (.seq (.reg [
  ⟨18, true, .load (some 6), [.s 1], none, [], []⟩,
  ⟨19, true, .load (some 28), [.s 2], none, [], []⟩,
  ⟨20, true, .build [(.int .i64 0), (.int .i64 0)] [(1, 1)], [.c (.int .i64 2)], none, [], []⟩,
  ⟨21, true, .buildSl 2 [(.int .i64 0), (.int .i64 0)] 1 [0], [.s 20], none, [], []⟩,
  ⟨22, true, .call 228, [.s 18, .s 19, .s 21], none, [], []⟩,
  ⟨17, true, .mv, [.s 22], none, [], []⟩,
  ⟨23, true, .extract 0, [.s 17], none, [], []⟩,
  ⟨24, true, .extract 1, [.s 17], none, [], []⟩,
  ⟨25, true, .extract 2, [.s 17], none, [], []⟩,
  ⟨3, true, .zero [(.int .i64 0), (.int .i64 0), (.int .i64 0), (.int .i64 0), (.int .i64 0), (.int .i64 0), (.int .i64 0), (.int .i64 0), (.int .i64 0), (.int .i64 0), (.int .i64 0), (.int .i64 0), (.int .i64 0), (.e true), (.bool false), (.int .i64 0), (.int .i64 0), (.int .i64 0), (.int .i64 0), (.int .i64 0), (.int .i64 0), (.int .i64 0), (.int .i64 0), (.int .i64 0), (.e true), (.bool false), (.e true), (.bool false)], [], none, [], []⟩,
  ⟨503, false, .store 28, [.s 3, .s 23], none, [], []⟩,
  ⟨4, true, .mv, [.s 24], none, [], []⟩,
  ⟨5, true, .mv, [.s 25], none, [], []⟩])
 (.seq (.reg [
  ⟨27, true, .load (some 6), [.s 1], none, [], []⟩,
  ⟨28, true, .load (some 28), [.s 3], none, [], []⟩,
  ⟨29, true, .call 228, [.s 27, .s 28, .c (.e true)], none, [], []⟩,
  ⟨26, true, .mv, [.s 29], none, [], []⟩,
  ⟨30, true, .extract 0, [.s 26], none, [], []⟩,
  ⟨31, true, .extract 1, [.s 26], none, [], []⟩,
  ⟨32, true, .extract 2, [.s 26], none, [], []⟩,
  ⟨6, true, .zero [(.int .i64 0), (.int .i64 0), (.int .i64 0), (.int .i64 0), (.int .i64 0), (.int .i64 0), (.int .i64 0), (.int .i64 0), (.int .i64 0), (.int .i64 0), (.int .i64 0), (.int .i64 0), (.int .i64 0), (.e true), (.bool false), (.int .i64 0), (.int .i64 0), (.int .i64 0), (.int .i64 0), (.int .i64 0), (.int .i64 0), (.int .i64 0), (.int .i64 0), (.int .i64 0), (.e true), (.bool false), (.e true), (.bool false)], [], none, [], []⟩,
  ⟨504, false, .store 28, [.s 6, .s 30], none, [], []⟩,
  ⟨7, true, .mv, [.s 31], none, [], []⟩,
  ⟨8, true, .mv, [.s 32], none, [], []⟩])
 (.seq (.reg [
  ⟨33, true, .mv, [.s 5], none, [], []⟩,
  ⟨34, true, .bin .eql, [.s 33, .c (.int .i64 7)], none, [], []⟩,
  ⟨35, true, .mv, [.s 34], none, [], []⟩,
  ⟨36, true, .faddr 3, [.s 3], (some (35, true)), [], []⟩,
  ⟨37, true, .load none, [.s 36], (some (35, true)), [], []⟩,
  ⟨38, true, .bin .eql, [.s 37, .c (.int .i64 1)], (some (35, true)), [], []⟩,
  ⟨39, true, .pick, [.s 35, .s 38, .c (.bool false)], none, [], []⟩,
  ⟨40, true, .mv, [.s 39], none, [], []⟩,
  ⟨41, true, .faddr 26, [.s 3], (some (40, true)), [], []⟩,
  ⟨42, true, .load none, [.s 41], (some (40, true)), [], []⟩,
  ⟨43, true, .len, [.s 42], (some (40, true)), [], []⟩,
  ⟨44, true, .bin .eql, [.s 43, .c (.int .i64 0)], (some (40, true)), [], []⟩,
  ⟨45, true, .pick, [.s 40, .s 44, .c (.bool false)], none, [], []⟩,
  ⟨46, true, .mv, [.s 45], none, [], []⟩,
  ⟨47, true, .mv, [.s 4], (some (46, true)), [], []⟩,
  ⟨48, true, .len, [.s 47], (some (46, true)), [], []⟩,
  ⟨49, true, .bin .eql, [.s 48, .c (.int .i64 1)], (some (46, true)), [], []⟩,
  ⟨50, true, .pick, [.s 46, .s 49, .c (.bool false)], none, [], []⟩,
  ⟨51, true, .mv, [.s 50], none, [], []⟩,
  ⟨52, true, .mv, [.s 4], (some (51, true)), [], []⟩,
  ⟨53, true, .iaddr 2, [.s 52, .c (.int .i64 0)], (some (51, true)), [], []⟩,
  ⟨54, true, .faddr 1, [.s 53], (some (51, true)), [], []⟩,
  ⟨55, true, .load none, [.s 54], (some (51, true)), [], []⟩,
  ⟨56, true, .bin .eql, [.s 55, .c (.int .i64 0)], (some (51, true)), [], []⟩,
  ⟨57, true, .pick, [.s 51, .s 56, .c (.bool false)], none, [], []⟩,
  ⟨58, true, .mv, [.s 57], none, [], []⟩,
  ⟨59, true, .mv, [.s 8], (some (58, true)), [], []⟩,
  ⟨60, true, .bin .eql, [.s 59, .c (.int .i64 6)], (some (58, true)), [], []⟩,
  ⟨61, true, .pick, [.s 58, .s 60, .c (.bool false)], none, [], []⟩,
  ⟨62, true, .mv, [.s 61], none, [], []⟩,
  ⟨63, true, .load (some 28), [.s 2], (some (62, true)), [], []⟩,
  ⟨64, true, .call 144, [.s 63, .c (.int .i64 0)], (some (62, true)), [], []⟩,
  ⟨65, true, .field 26 none, [.s 64], (some (62, true)), [], []⟩,
  ⟨66, true, .len, [.s 65], (some (62, true)), [], []⟩,
  ⟨67, true, .bin .eql, [.s 66, .c (.int .i64 0)], (some (62, true)), [], []⟩,
  ⟨68, true, .pick, [.s 62, .s 67, .c (.bool false)], none, [], []⟩,
  ⟨0, true, .mv, [.s 68], none, [], []⟩])
 .ret)))))))
def nf : Nat → Option FuncId
  | 60 => some 14
  | 63 => some 26
  | 94 => some 37
  | 114 => some 25
  | 136 => some 34
  | 137 => some 35
  | 144 => some 15
  | 155 => some 30
  | 158 => some 43
  | 170 => some 8
  | 185 => some 12
  | 189 => some 16
  | 216 => some 19
  | 218 => some 20
  | 219 => some 27
  | 220 => some 28
  | 228 => some 9
  | 239 => some 17
  | 244 => some 23
  | 245 => some 24
  | 270 => some 32
  | 271 => some 33
  | 274 => some 40
  | 281 => some 29
  | 284 => some 31
  | 286 => some 41
  | 288 => some 18
  | 298 => some 38
  | 299 => some 39
  | 330 => some 44
  | 1003 => some 6
  | 1004 => some 7
  | _ => none
def abi : Nat → List Mode
  | 60 => [.lend, .lend]
  | 63 => [.lend, .lend]
  | 94 => [.lend]
  | 114 => [.lend, .lend]
  | 136 => [.lend]
  | 137 => [.lend]
  | 144 => [.lend, .lend]
  | 155 => [.lend]
  | 158 => [.lend, .lend]
  | 170 => [.lend, .lend, .lend]
  | 185 => [.lend, .lend]
  | 189 => [.lend]
  | 216 => [.lend, .lend]
  | 218 => [.lend]
  | 219 => [.give, .lend]
  | 220 => [.lend]
  | 228 => [.lend, .lend, .lend]
  | 239 => [.lend]
  | 244 => [.lend, .lend]
  | 245 => [.lend, .lend]
  | 270 => [.lend]
  | 271 => [.lend, .lend, .lend]
  | 274 => [.lend, .lend]
  | 281 => [.lend]
  | 284 => [.lend]
  | 286 => [.lend, .lend]
  | 288 => [.lend, .lend]
  | 298 => [.lend, .lend]
  | 299 => [.lend, .lend]
  | 330 => [.lend]
  | 1003 => []
  | 1004 => []
  | _ => []
theorem k60 : chkFun Try.prog nf abi Try.f14 F60 = true := by kernel_rfl
theorem k63 : chkFun Try.prog nf abi Try.f26 F63 = true := by kernel_rfl
theorem k94 : chkFun Try.prog nf abi Try.f37 F94 = true := by kernel_rfl
theorem k114 : chkFun Try.prog nf abi Try.f25 F114 = true := by kernel_rfl
theorem k136 : chkFun Try.prog nf abi Try.f34 F136 = true := by kernel_rfl
theorem k137 : chkFun Try.prog nf abi Try.f35 F137 = true := by kernel_rfl
theorem k144 : chkFun Try.prog nf abi Try.f15 F144 = true := by kernel_rfl
theorem k155 : chkFun Try.prog nf abi Try.f30 F155 = true := by kernel_rfl
theorem k158 : chkFun Try.prog nf abi Try.f43 F158 = true := by kernel_rfl
theorem k170 : chkFun Try.prog nf abi Try.f8 F170 = true := by kernel_rfl
theorem k185 : chkFun Try.prog nf abi Try.f12 F185 = true := by kernel_rfl
theorem k189 : chkFun Try.prog nf abi Try.f16 F189 = true := by kernel_rfl
theorem k216 : chkFun Try.prog nf abi Try.f19 F216 = true := by kernel_rfl
theorem k218 : chkFun Try.prog nf abi Try.f20 F218 = true := by kernel_rfl
theorem k219 : chkFun Try.prog nf abi Try.f27 F219 = true := by kernel_rfl
theorem k220 : chkFun Try.prog nf abi Try.f28 F220 = true := by kernel_rfl
theorem k228 : chkFun Try.prog nf abi Try.f9 F228 = true := by kernel_rfl
theorem k239 : chkFun Try.prog nf abi Try.f17 F239 = true := by kernel_rfl
theorem k244 : chkFun Try.prog nf abi Try.f23 F244 = true := by kernel_rfl
theorem k245 : chkFun Try.prog nf abi Try.f24 F245 = true := by kernel_rfl
theorem k270 : chkFun Try.prog nf abi Try.f32 F270 = true := by kernel_rfl
theorem k271 : chkFun Try.prog nf abi Try.f33 F271 = true := by kernel_rfl
theorem k274 : chkFun Try.prog nf abi Try.f40 F274 = true := by kernel_rfl
theorem k281 : chkFun Try.prog nf abi Try.f29 F281 = true := by kernel_rfl
theorem k284 : chkFun Try.prog nf abi Try.f31 F284 = true := by kernel_rfl
theorem k286 : chkFun Try.prog nf abi Try.f41 F286 = true := by kernel_rfl
theorem k288 : chkFun Try.prog nf abi Try.f18 F288 = true := by kernel_rfl
theorem k298 : chkFun Try.prog nf abi Try.f38 F298 = true := by kernel_rfl
theorem k299 : chkFun Try.prog nf abi Try.f39 F299 = true := by kernel_rfl
theorem k330 : chkFun Try.prog nf abi Try.f44 F330 = true := by kernel_rfl
theorem k1003 : chkFun Try.prog nf abi Try.f6 F1003 = true := by kernel_rfl
theorem k1004 : chkFun Try.prog nf abi Try.f7 F1004 = true := by kernel_rfl
end Fo.Try
