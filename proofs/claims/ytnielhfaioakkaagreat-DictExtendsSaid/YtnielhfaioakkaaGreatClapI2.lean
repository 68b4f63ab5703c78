/- PRINTED by mkir.py: the small code of the loaded functions. -/
import Derived.Test.YtnielhfaioakkaaGreatClapV3
namespace Go.Clap

/-- align.table -/
def ir32 : Fn TT := ⟨110, [.t 4],
 (.seq
  (.reg [⟨some 4, none, .mv (.c (.nils))⟩])
  (.seq
   (.reg [⟨some 8, none, .mv (.t 0)⟩,
     ⟨some 9, none, .len false (.t 8)⟩,
     ⟨some 10, none, .bin .add .num (.t 9) (.c (.int .i64 1))⟩,
     ⟨some 11, none, .mk 11 .ints ([] : List Int) 68719476736 (.t 10)⟩,
     ⟨some 5, none, .mv (.t 11)⟩])
   (.seq
    (.seq
     (.reg [⟨some 12, none, .mv (.t 0)⟩,
       ⟨some 13, none, .len false (.t 12)⟩,
       ⟨some 6, none, .mv (.t 13)⟩])
     (.block 0
      (.tab (.s 11) .int (.loop (.keep [0, 1, 5, 6] [(.s 11)]
       (.seq
        (.seq
         (.reg [⟨some 14, none, .mv (.t 6)⟩,
           ⟨some 15, none, .bin .geq .num (.t 14) (.c (.int .i64 0))⟩])
         (.cond 15
          .skip
          (.exit 0)))
        (.seq
         (.block 1
          (.seq
           (.reg [⟨some 18, none, .mv (.t 5)⟩,
             ⟨some 19, none, .mv (.t 6)⟩,
             ⟨some 20, none, .mv (.t 1)⟩,
             ⟨some 21, none, .len false (.t 20)⟩,
             ⟨some 22, none, .bin .add .num (.t 21) (.c (.int .i64 1))⟩,
             ⟨some 23, none, .mk 23 .int (0 : Int) 68719476736 (.t 22)⟩,
             ⟨some 24, none, .idxA (.t 18) (.t 19) 1⟩,
             ⟨none, none, .store (.t 24) (.t 23) 1⟩])
           (.seq
            (.reg [⟨some 25, none, .mv (.t 1)⟩,
              ⟨some 26, none, .len false (.t 25)⟩,
              ⟨some 7, none, .mv (.t 26)⟩])
            (.block 2
             (.loop (.keep [0, 1, 5, 6, 7] [(.s 11), (.s 23)]
              (.seq
               (.seq
                (.reg [⟨some 27, none, .mv (.t 7)⟩,
                  ⟨some 28, none, .bin .geq .num (.t 27) (.c (.int .i64 0))⟩])
                (.cond 28
                 .skip
                 (.exit 2)))
               (.seq
                (.block 3
                 (.block 4
                  (.seq
                   (.reg [⟨some 78, none, .mv (.t 6)⟩,
                     ⟨some 79, none, .mv (.t 0)⟩,
                     ⟨some 80, none, .len false (.t 79)⟩,
                     ⟨some 81, none, .bin .eql .num (.t 78) (.t 80)⟩,
                     ⟨some 77, none, .mv (.t 81)⟩])
                   (.cond 77
                    (.reg [⟨some 82, none, .mv (.t 5)⟩,
                      ⟨some 83, none, .mv (.t 6)⟩,
                      ⟨some 84, none, .idxA (.t 82) (.t 83) 1⟩,
                      ⟨some 85, none, .load (.t 84) 1 false⟩,
                      ⟨some 86, none, .mv (.t 7)⟩,
                      ⟨some 87, none, .mv (.t 1)⟩,
                      ⟨some 88, none, .len false (.t 87)⟩,
                      ⟨some 89, none, .mv (.t 7)⟩,
                      ⟨some 90, none, .bin .sub .num (.t 88) (.t 89)⟩,
                      ⟨some 91, none, .bin .mul .num (.c (.int .i64 2)) (.t 90)⟩,
                      ⟨some 92, none, .idxA (.t 85) (.t 86) 1⟩,
                      ⟨none, none, .store (.t 92) (.t 91) 1⟩])
                    (.seq
                     (.reg [⟨some 94, none, .mv (.t 7)⟩,
                       ⟨some 95, none, .mv (.t 1)⟩,
                       ⟨some 96, none, .len false (.t 95)⟩,
                       ⟨some 97, none, .bin .eql .num (.t 94) (.t 96)⟩,
                       ⟨some 93, none, .mv (.t 97)⟩])
                     (.cond 93
                      (.reg [⟨some 98, none, .mv (.t 5)⟩,
                        ⟨some 99, none, .mv (.t 6)⟩,
                        ⟨some 100, none, .idxA (.t 98) (.t 99) 1⟩,
                        ⟨some 101, none, .load (.t 100) 1 false⟩,
                        ⟨some 102, none, .mv (.t 7)⟩,
                        ⟨some 103, none, .mv (.t 0)⟩,
                        ⟨some 104, none, .len false (.t 103)⟩,
                        ⟨some 105, none, .mv (.t 6)⟩,
                        ⟨some 106, none, .bin .sub .num (.t 104) (.t 105)⟩,
                        ⟨some 107, none, .bin .mul .num (.c (.int .i64 2)) (.t 106)⟩,
                        ⟨some 108, none, .idxA (.t 101) (.t 102) 1⟩,
                        ⟨none, none, .store (.t 108) (.t 107) 1⟩])
                      (.drw [] (ol [0, 1, 2, 3, 4, 5, 6, 7, 8, 9, 10, 11, 12, 13, 14, 15, 16, 17, 18, 19, 20, 21, 22, 23, 26, 27, 28, 29, 30, 31, 32, 33, 34, 35, 36, 37, 38, 39, 40, 41, 42, 43, 24, 25, 44, 45, 46]) [46] [0, 1, 2, 3, 4, 5, 6, 7, 8, 9, 10, 11, 12, 13, 14, 15, 16, 17, 18, 19, 20, 21, 22, 23, 25, 26, 27, 28, 29, 30, 31, 32, 33, 34, 35, 36, 37, 38, 39, 40, 41, 42, 43, 44, 45] [⟨some 31, none, .mv (.t 5)⟩,
                        ⟨some 32, none, .mv (.t 6)⟩,
                        ⟨some 33, none, .idxA (.t 31) (.t 32) 1⟩,
                        ⟨some 34, none, .load (.t 33) 1 false⟩,
                        ⟨some 35, none, .mv (.t 7)⟩,
                        ⟨some 36, none, .mv (.t 5)⟩,
                        ⟨some 37, none, .mv (.t 6)⟩,
                        ⟨some 38, none, .bin .add .num (.t 37) (.c (.int .i64 1))⟩,
                        ⟨some 39, none, .idxA (.t 36) (.t 38) 1⟩,
                        ⟨some 40, none, .load (.t 39) 1 false⟩,
                        ⟨some 41, none, .mv (.t 7)⟩,
                        ⟨some 42, none, .bin .add .num (.t 41) (.c (.int .i64 1))⟩,
                        ⟨some 43, none, .idxA (.t 40) (.t 42) 1⟩,
                        ⟨some 44, none, .load (.t 43) 1 false⟩,
                        ⟨some 45, none, .mv (.t 0)⟩,
                        ⟨some 46, none, .mv (.t 6)⟩,
                        ⟨some 47, none, .idxA (.t 45) (.t 46) 5⟩,
                        ⟨some 48, none, .fa (.t 47) 1⟩,
                        ⟨some 49, none, .load (.t 48) 4 true⟩,
                        ⟨some 50, none, .mv (.t 1)⟩,
                        ⟨some 51, none, .mv (.t 7)⟩,
                        ⟨some 52, none, .idxA (.t 50) (.t 51) 5⟩,
                        ⟨some 53, none, .fa (.t 52) 1⟩,
                        ⟨some 54, none, .load (.t 53) 4 true⟩,
                        ⟨some 55, none, .call 55 33 [(.t 49), (.t 54)]⟩,
                        ⟨some 56, none, .bin .add .num (.t 44) (.t 55)⟩,
                        ⟨some 57, none, .mv (.t 5)⟩,
                        ⟨some 58, none, .mv (.t 6)⟩,
                        ⟨some 59, none, .bin .add .num (.t 58) (.c (.int .i64 1))⟩,
                        ⟨some 60, none, .idxA (.t 57) (.t 59) 1⟩,
                        ⟨some 61, none, .load (.t 60) 1 false⟩,
                        ⟨some 62, none, .mv (.t 7)⟩,
                        ⟨some 63, none, .idxA (.t 61) (.t 62) 1⟩,
                        ⟨some 64, none, .load (.t 63) 1 false⟩,
                        ⟨some 65, none, .bin .add .num (.t 64) (.c (.int .i64 2))⟩,
                        ⟨some 66, none, .mv (.t 5)⟩,
                        ⟨some 67, none, .mv (.t 6)⟩,
                        ⟨some 68, none, .idxA (.t 66) (.t 67) 1⟩,
                        ⟨some 69, none, .load (.t 68) 1 false⟩,
                        ⟨some 70, none, .mv (.t 7)⟩,
                        ⟨some 71, none, .bin .add .num (.t 70) (.c (.int .i64 1))⟩,
                        ⟨some 72, none, .idxA (.t 69) (.t 71) 1⟩,
                        ⟨some 73, none, .load (.t 72) 1 false⟩,
                        ⟨some 74, none, .bin .add .num (.t 73) (.c (.int .i64 2))⟩,
                        ⟨some 75, none, .mn [(.t 56), (.t 65), (.t 74)]⟩,
                        ⟨some 76, none, .idxA (.t 34) (.t 35) 1⟩,
                        ⟨none, none, .store (.t 76) (.t 75) 1⟩])))))))
                (.reg [⟨some 29, none, .mv (.t 7)⟩,
                  ⟨some 30, none, .bin .sub .num (.t 29) (.c (.int .i64 1))⟩,
                  ⟨some 7, none, .mv (.t 30)⟩])))))))))
         (.fzt (.s 11) (.reg [⟨some 16, none, .mv (.t 6)⟩,
           ⟨some 17, none, .bin .sub .num (.t 16) (.c (.int .i64 1))⟩,
           ⟨some 6, none, .mv (.t 17)⟩])))))))))
    (.seq
     (.untab (.s 11) .ints (.fz 5 0 (.reg [⟨some 109, none, .mv (.t 5)⟩,
       ⟨some 4, none, .mv (.t 109)⟩])))
     .ret))))⟩

/-- align.ByEdits -/
def ir9 : Fn TT := ⟨126, [.t 4, .t 5, .t 6],
 (.seq
  (.reg [⟨some 2, none, .box 2 (.t 0)⟩,
    ⟨some 3, none, .box 3 (.t 1)⟩,
    ⟨some 4, none, .mv (.c (.nils))⟩,
    ⟨some 5, none, .mv (.c (.int .i64 0))⟩,
    ⟨some 6, none, .mv (.c (.int .i64 0))⟩])
  (.seq
   (.seq
    (.reg [⟨some 12, none, .load (.t 2) 4 true⟩,
      ⟨some 13, none, .load (.t 3) 4 true⟩,
      ⟨some 14, none, .call 14 31 [(.t 12), (.t 13)]⟩,
      ⟨some 7, none, .mv (.t 14)⟩])
    (.seq
     (.reg [⟨some 15, none, .mv (.t 7)⟩,
       ⟨some 16, none, .bin .neq .num (.t 15) (.c (.int .i64 0))⟩])
     (.cond 16
      (.seq
       (.reg [⟨some 17, none, .mv (.t 7)⟩,
         ⟨some 4, none, .mv (.c (.nils))⟩,
         ⟨some 5, none, .mv (.c (.int .i64 0))⟩,
         ⟨some 6, none, .mv (.t 17)⟩])
       .ret)
      .skip)))
   (.seq
    (.reg [⟨some 18, none, .fa (.t 2) 3⟩,
      ⟨some 19, none, .load (.t 18) 1 false⟩,
      ⟨some 20, none, .fa (.t 3) 3⟩,
      ⟨some 21, none, .load (.t 20) 1 false⟩,
      ⟨some 22, none, .call 22 32 [(.t 19), (.t 21)]⟩,
      ⟨some 8, none, .mv (.t 22)⟩])
    (.seq
     (.reg [⟨some 9, none, .mv (.c (.nils))⟩])
     (.seq
      (.reg [⟨some 10, none, .mv (.c (.int .i64 0))⟩,
        ⟨some 11, none, .mv (.c (.int .i64 0))⟩])
      (.seq
       (.block 0
        (.own 9 .pair (.sub (.s 9) 9) (.loop (.keep [2, 3, 8, 9, 10, 11] [.s 2, .s 3, (.sub (.s 9) 9)]
         (.seq
          (.seq
           (.reg [⟨some 23, none, .mv (.t 10)⟩,
             ⟨some 24, none, .fa (.t 2) 3⟩,
             ⟨some 25, none, .load (.t 24) 1 false⟩,
             ⟨some 26, none, .len false (.t 25)⟩,
             ⟨some 27, none, .bin .lss .num (.t 23) (.t 26)⟩,
             ⟨some 28, none, .mv (.t 27)⟩,
             ⟨some 29, (some (28, false)), .mv (.t 11)⟩,
             ⟨some 30, (some (28, false)), .fa (.t 3) 3⟩,
             ⟨some 31, (some (28, false)), .load (.t 30) 1 false⟩,
             ⟨some 32, (some (28, false)), .len false (.t 31)⟩,
             ⟨some 33, (some (28, false)), .bin .lss .num (.t 29) (.t 32)⟩,
             ⟨some 34, none, .pick (.t 28) (.c (.bool true)) (.t 33)⟩])
           (.cond 34
            .skip
            (.exit 0)))
          (.block 1
           (.block 2
            (.seq
             (.drw [] (ol [0, 1, 2, 3, 4, 5, 6, 7, 8, 9, 10, 11, 12, 13, 14, 15, 16, 17, 18, 19, 20, 21, 22, 23, 24, 25, 26, 27, 28, 29, 30, 31, 32, 33, 34, 35, 36, 37, 38, 39, 40, 41, 42, 43, 44, 45]) [] [0, 1, 2, 3, 4, 5, 6, 7, 8, 9, 10, 11, 12, 13, 14, 15, 16, 17, 18, 19, 20, 21, 22, 23, 24, 25, 26, 27, 28, 29, 30, 31, 32, 33, 34, 35, 36, 37, 38, 39, 40, 42, 43, 44, 45] [⟨some 38, none, .mv (.t 10)⟩,
               ⟨some 39, none, .fa (.t 2) 3⟩,
               ⟨some 40, none, .load (.t 39) 1 false⟩,
               ⟨some 41, none, .len false (.t 40)⟩,
               ⟨some 42, none, .bin .lss .num (.t 38) (.t 41)⟩,
               ⟨some 43, none, .mv (.t 42)⟩,
               ⟨some 44, (some (43, true)), .mv (.t 11)⟩,
               ⟨some 45, (some (43, true)), .fa (.t 3) 3⟩,
               ⟨some 46, (some (43, true)), .load (.t 45) 1 false⟩,
               ⟨some 47, (some (43, true)), .len false (.t 46)⟩,
               ⟨some 48, (some (43, true)), .bin .lss .num (.t 44) (.t 47)⟩,
               ⟨some 49, none, .pick (.t 43) (.t 48) (.c (.bool false))⟩,
               ⟨some 50, none, .mv (.t 49)⟩,
               ⟨some 51, (some (50, true)), .mv (.t 8)⟩,
               ⟨some 52, (some (50, true)), .mv (.t 10)⟩,
               ⟨some 53, (some (50, true)), .idxA (.t 51) (.t 52) 1⟩,
               ⟨some 54, (some (50, true)), .load (.t 53) 1 false⟩,
               ⟨some 55, (some (50, true)), .mv (.t 11)⟩,
               ⟨some 56, (some (50, true)), .idxA (.t 54) (.t 55) 1⟩,
               ⟨some 57, (some (50, true)), .load (.t 56) 1 false⟩,
               ⟨some 58, (some (50, true)), .mv (.t 8)⟩,
               ⟨some 59, (some (50, true)), .mv (.t 10)⟩,
               ⟨some 60, (some (50, true)), .bin .add .num (.t 59) (.c (.int .i64 1))⟩,
               ⟨some 61, (some (50, true)), .idxA (.t 58) (.t 60) 1⟩,
               ⟨some 62, (some (50, true)), .load (.t 61) 1 false⟩,
               ⟨some 63, (some (50, true)), .mv (.t 11)⟩,
               ⟨some 64, (some (50, true)), .bin .add .num (.t 63) (.c (.int .i64 1))⟩,
               ⟨some 65, (some (50, true)), .idxA (.t 62) (.t 64) 1⟩,
               ⟨some 66, (some (50, true)), .load (.t 65) 1 false⟩,
               ⟨some 67, (some (50, true)), .fa (.t 2) 3⟩,
               ⟨some 68, (some (50, true)), .load (.t 67) 1 false⟩,
               ⟨some 69, (some (50, true)), .mv (.t 10)⟩,
               ⟨some 70, (some (50, true)), .idxA (.t 68) (.t 69) 5⟩,
               ⟨some 71, (some (50, true)), .fa (.t 70) 1⟩,
               ⟨some 72, (some (50, true)), .load (.t 71) 4 true⟩,
               ⟨some 73, (some (50, true)), .fa (.t 3) 3⟩,
               ⟨some 74, (some (50, true)), .load (.t 73) 1 false⟩,
               ⟨some 75, (some (50, true)), .mv (.t 11)⟩,
               ⟨some 76, (some (50, true)), .idxA (.t 74) (.t 75) 5⟩,
               ⟨some 77, (some (50, true)), .fa (.t 76) 1⟩,
               ⟨some 78, (some (50, true)), .load (.t 77) 4 true⟩,
               ⟨some 79, (some (50, true)), .call 79 33 [(.t 72), (.t 78)]⟩,
               ⟨some 80, (some (50, true)), .bin .add .num (.t 66) (.t 79)⟩,
               ⟨some 81, (some (50, true)), .bin .eql .num (.t 57) (.t 80)⟩,
               ⟨some 82, none, .pick (.t 50) (.t 81) (.c (.bool false))⟩,
               ⟨some 37, none, .mv (.t 82)⟩])
             (.cond 37
              (.seq
               (.reg [⟨some 83, none, .mv (.t 9)⟩,
                 ⟨some 84, none, .mv (.t 10)⟩,
                 ⟨some 85, none, .mv (.t 11)⟩,
                 ⟨some 86, none, .build [.int .i64 0, .int .i64 0] [((0, 1), (.t 84)), ((1, 1), (.t 85))]⟩,
                 ⟨some 87, none, .bsl .pair [(.t 86)]⟩,
                 ⟨some 88, none, .app 88 .pair 68719476736 (.t 83) (.t 87)⟩,
                 ⟨some 9, none, .mv (.t 88)⟩])
               (.keep [2, 3, 8, 9, 10, 11] [.s 2, .s 3, .s 88] (.own 9 .pair (.sub (.s 9) 9) (.reg [⟨some 89, none, .mv (.t 10)⟩,
                 ⟨some 90, none, .bin .add .num (.t 89) (.c (.int .i64 1))⟩,
                 ⟨some 91, none, .mv (.t 11)⟩,
                 ⟨some 92, none, .bin .add .num (.t 91) (.c (.int .i64 1))⟩,
                 ⟨some 10, none, .mv (.t 90)⟩,
                 ⟨some 11, none, .mv (.t 92)⟩]))))
              (.seq
               (.drw [] (ol [0, 1, 2, 3, 4, 5, 6, 7, 8, 9, 10, 11, 12, 13, 14, 15, 16, 17, 18, 19, 20, 21, 22, 23, 24]) [] [0, 1, 2, 3, 4, 5, 6, 7, 8, 9, 10, 11, 12, 13, 14, 15, 16, 17, 18, 19, 20, 21, 22, 23, 24] [⟨some 94, none, .mv (.t 10)⟩,
                 ⟨some 95, none, .fa (.t 2) 3⟩,
                 ⟨some 96, none, .load (.t 95) 1 false⟩,
                 ⟨some 97, none, .len false (.t 96)⟩,
                 ⟨some 98, none, .bin .lss .num (.t 94) (.t 97)⟩,
                 ⟨some 99, none, .mv (.t 98)⟩,
                 ⟨some 100, (some (99, true)), .mv (.t 8)⟩,
                 ⟨some 101, (some (99, true)), .mv (.t 10)⟩,
                 ⟨some 102, (some (99, true)), .idxA (.t 100) (.t 101) 1⟩,
                 ⟨some 103, (some (99, true)), .load (.t 102) 1 false⟩,
                 ⟨some 104, (some (99, true)), .mv (.t 11)⟩,
                 ⟨some 105, (some (99, true)), .idxA (.t 103) (.t 104) 1⟩,
                 ⟨some 106, (some (99, true)), .load (.t 105) 1 false⟩,
                 ⟨some 107, (some (99, true)), .mv (.t 8)⟩,
                 ⟨some 108, (some (99, true)), .mv (.t 10)⟩,
                 ⟨some 109, (some (99, true)), .bin .add .num (.t 108) (.c (.int .i64 1))⟩,
                 ⟨some 110, (some (99, true)), .idxA (.t 107) (.t 109) 1⟩,
                 ⟨some 111, (some (99, true)), .load (.t 110) 1 false⟩,
                 ⟨some 112, (some (99, true)), .mv (.t 11)⟩,
                 ⟨some 113, (some (99, true)), .idxA (.t 111) (.t 112) 1⟩,
                 ⟨some 114, (some (99, true)), .load (.t 113) 1 false⟩,
                 ⟨some 115, (some (99, true)), .bin .add .num (.t 114) (.c (.int .i64 2))⟩,
                 ⟨some 116, (some (99, true)), .bin .eql .num (.t 106) (.t 115)⟩,
                 ⟨some 117, none, .pick (.t 99) (.t 116) (.c (.bool false))⟩,
                 ⟨some 93, none, .mv (.t 117)⟩])
               (.cond 93
                (.reg [⟨some 118, none, .mv (.t 10)⟩,
                  ⟨some 119, none, .bin .add .num (.t 118) (.c (.int .i64 1))⟩,
                  ⟨some 10, none, .mv (.t 119)⟩])
                (.reg [⟨some 35, none, .mv (.t 11)⟩,
                  ⟨some 36, none, .bin .add .num (.t 35) (.c (.int .i64 1))⟩,
                  ⟨some 11, none, .mv (.t 36)⟩]))))))))))))
       (.seq
        (.fz 9 0 (.drw [] (ol [0, 1, 2, 3, 4, 5, 6, 7, 8]) [] [0, 1, 2, 3, 4, 5, 6, 7, 8] [⟨some 120, none, .mv (.t 9)⟩,
          ⟨some 121, none, .mv (.t 8)⟩,
          ⟨some 122, none, .idxA (.t 121) (.c (.int .i64 0)) 1⟩,
          ⟨some 123, none, .load (.t 122) 1 false⟩,
          ⟨some 124, none, .idxA (.t 123) (.c (.int .i64 0)) 1⟩,
          ⟨some 125, none, .load (.t 124) 1 false⟩,
          ⟨some 4, none, .mv (.t 120)⟩,
          ⟨some 5, none, .mv (.t 125)⟩,
          ⟨some 6, none, .mv (.c (.int .i64 0))⟩]))
        .ret)))))))⟩

/-- clapkeep3.aligned -/
def ir10 : Fn TT := ⟨31, [.t 0],
 (.seq
  (.reg [⟨some 0, none, .mv (.c (.bool false))⟩])
  (.seq
   (.reg [⟨some 5, none, .bsl .int [(.c (.int .i64 1)), (.c (.int .i64 2))]⟩,
     ⟨some 6, none, .call 6 8 [(.t 5)]⟩,
     ⟨some 7, none, .bsl .int [(.c (.int .i64 2))]⟩,
     ⟨some 8, none, .call 8 8 [(.t 7)]⟩,
     ⟨some 9, none, .call 9 9 [(.t 6), (.t 8)]⟩,
     ⟨some 4, none, .mv (.t 9)⟩,
     ⟨some 10, none, .ext (.t 4) 0⟩,
     ⟨some 11, none, .ext (.t 4) 1⟩,
     ⟨some 12, none, .ext (.t 4) 2⟩,
     ⟨some 1, none, .mv (.t 10)⟩,
     ⟨some 2, none, .mv (.t 11)⟩,
     ⟨some 3, none, .mv (.t 12)⟩])
   (.seq
    (.reg [⟨some 13, none, .mv (.t 3)⟩,
      ⟨some 14, none, .bin .eql .num (.t 13) (.c (.int .i64 0))⟩,
      ⟨some 15, none, .mv (.t 14)⟩,
      ⟨some 16, (some (15, true)), .mv (.t 2)⟩,
      ⟨some 17, (some (15, true)), .bin .eql .num (.t 16) (.c (.int .i64 2))⟩,
      ⟨some 18, none, .pick (.t 15) (.t 17) (.c (.bool false))⟩,
      ⟨some 19, none, .mv (.t 18)⟩,
      ⟨some 20, (some (19, true)), .mv (.t 1)⟩,
      ⟨some 21, (some (19, true)), .len false (.t 20)⟩,
      ⟨some 22, (some (19, true)), .bin .eql .num (.t 21) (.c (.int .i64 1))⟩,
      ⟨some 23, none, .pick (.t 19) (.t 22) (.c (.bool false))⟩,
      ⟨some 24, none, .mv (.t 23)⟩,
      ⟨some 25, (some (24, true)), .mv (.t 1)⟩,
      ⟨some 26, (some (24, true)), .idxA (.t 25) (.c (.int .i64 0)) 2⟩,
      ⟨some 27, (some (24, true)), .load (.t 26) 2 true⟩,
      ⟨some 28, (some (24, true)), .build [.int .i64 0, .int .i64 0] [((0, 1), (.c (.int .i64 1))), ((1, 1), (.c (.int .i64 0)))]⟩,
      ⟨some 29, (some (24, true)), .bin .eql (.two 2) (.t 27) (.t 28)⟩,
      ⟨some 30, none, .pick (.t 24) (.t 29) (.c (.bool false))⟩,
      ⟨some 0, none, .mv (.t 30)⟩])
    .ret)))⟩

/-- clapkeep3.AlignMetric -/
def ir3 : Fn TT := ⟨65, [.t 4],
 (.seq
  (.reg [⟨some 4, none, .mv (.c (.bool false))⟩])
  (.seq
   (.reg [⟨some 13, none, .mv (.t 0)⟩,
     ⟨some 14, none, .call 14 8 [(.t 13)]⟩,
     ⟨some 15, none, .mv (.t 1)⟩,
     ⟨some 16, none, .call 16 8 [(.t 15)]⟩,
     ⟨some 5, none, .alloc 5 [.int .i64 0, .int .i64 0, .str ⟨#[]⟩, .isl .fld []]⟩,
     ⟨some 6, none, .alloc 6 [.int .i64 0, .int .i64 0, .str ⟨#[]⟩, .isl .fld []]⟩,
     ⟨none, none, .store (.t 5) (.t 14) 4⟩,
     ⟨none, none, .store (.t 6) (.t 16) 4⟩])
   (.seq
    (.reg [⟨some 18, none, .load (.t 5) 4 true⟩,
      ⟨some 19, none, .load (.t 6) 4 true⟩,
      ⟨some 20, none, .call 20 9 [(.t 18), (.t 19)]⟩,
      ⟨some 17, none, .mv (.t 20)⟩,
      ⟨some 21, none, .ext (.t 17) 0⟩,
      ⟨some 22, none, .ext (.t 17) 1⟩,
      ⟨some 23, none, .ext (.t 17) 2⟩,
      ⟨some 7, none, .mv (.t 21)⟩,
      ⟨some 8, none, .mv (.t 22)⟩,
      ⟨some 9, none, .mv (.t 23)⟩])
    (.seq
     (.reg [⟨some 25, none, .load (.t 6) 4 true⟩,
       ⟨some 26, none, .load (.t 5) 4 true⟩,
       ⟨some 27, none, .call 27 9 [(.t 25), (.t 26)]⟩,
       ⟨some 24, none, .mv (.t 27)⟩,
       ⟨some 28, none, .ext (.t 24) 0⟩,
       ⟨some 29, none, .ext (.t 24) 1⟩,
       ⟨some 30, none, .ext (.t 24) 2⟩,
       ⟨some 10, none, .mv (.t 28)⟩,
       ⟨some 11, none, .mv (.t 29)⟩,
       ⟨some 12, none, .mv (.t 30)⟩])
     (.seq
      (.reg [⟨some 31, none, .call 31 10 []⟩,
        ⟨some 32, none, .mv (.t 31)⟩,
        ⟨some 33, (some (32, true)), .mv (.t 9)⟩,
        ⟨some 34, (some (32, true)), .bin .eql .num (.t 33) (.c (.int .i64 0))⟩,
        ⟨some 35, none, .pick (.t 32) (.t 34) (.c (.bool false))⟩,
        ⟨some 36, none, .mv (.t 35)⟩,
        ⟨some 37, (some (36, true)), .mv (.t 12)⟩,
        ⟨some 38, (some (36, true)), .bin .eql .num (.t 37) (.c (.int .i64 0))⟩,
        ⟨some 39, none, .pick (.t 36) (.t 38) (.c (.bool false))⟩,
        ⟨some 40, none, .mv (.t 39)⟩,
        ⟨some 41, (some (40, true)), .mv (.t 8)⟩,
        ⟨some 42, (some (40, true)), .mv (.t 11)⟩,
        ⟨some 43, (some (40, true)), .bin .eql .num (.t 41) (.t 42)⟩,
        ⟨some 44, none, .pick (.t 40) (.t 43) (.c (.bool false))⟩,
        ⟨some 45, none, .mv (.t 44)⟩,
        ⟨some 46, (some (45, true)), .mv (.t 8)⟩,
        ⟨some 47, (some (45, true)), .bin .eql .num (.t 46) (.c (.int .i64 0))⟩,
        ⟨some 48, (some (45, true)), .load (.t 5) 4 true⟩,
        ⟨some 49, (some (45, true)), .load (.t 6) 4 true⟩,
        ⟨some 50, (some (45, true)), .call 50 11 [(.t 48), (.t 49)]⟩,
        ⟨some 51, (some (45, true)), .bin .eql .bool (.t 47) (.t 50)⟩,
        ⟨some 52, none, .pick (.t 45) (.t 51) (.c (.bool false))⟩,
        ⟨some 53, none, .mv (.t 52)⟩,
        ⟨some 54, (some (53, true)), .mv (.t 8)⟩,
        ⟨some 55, (some (53, true)), .fa (.t 5) 3⟩,
        ⟨some 56, (some (53, true)), .load (.t 55) 1 false⟩,
        ⟨some 57, (some (53, true)), .len false (.t 56)⟩,
        ⟨some 58, (some (53, true)), .fa (.t 6) 3⟩,
        ⟨some 59, (some (53, true)), .load (.t 58) 1 false⟩,
        ⟨some 60, (some (53, true)), .len false (.t 59)⟩,
        ⟨some 61, (some (53, true)), .bin .add .num (.t 57) (.t 60)⟩,
        ⟨some 62, (some (53, true)), .bin .mul .num (.c (.int .i64 2)) (.t 61)⟩,
        ⟨some 63, (some (53, true)), .bin .leq .num (.t 54) (.t 62)⟩,
        ⟨some 64, none, .pick (.t 53) (.t 63) (.c (.bool false))⟩,
        ⟨some 4, none, .mv (.t 64)⟩])
      .ret)))))⟩

end Go.Clap
