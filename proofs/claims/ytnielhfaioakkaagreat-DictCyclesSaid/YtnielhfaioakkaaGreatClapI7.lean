/- PRINTED by mkirz.py: the small code of the loaded functions. -/
import Derived.Test.YtnielhfaioakkaaGreatClapV27
namespace Go.Clap

/-- dict.Cycles -/
def ir326 : Fn TT := ⟨65, [.t 2, .t 3],
 (.seq
  (.reg [⟨some 2, none, .mv (.c (.nils))⟩,
    ⟨some 3, none, .mv (.c (.int .i64 0))⟩])
  (.seq
   (.seq
    (.reg [⟨some 12, none, .mv (.t 0)⟩,
      ⟨some 13, none, .call 13 46 [(.t 12)]⟩,
      ⟨some 4, none, .mv (.t 13)⟩])
    (.seq
     (.reg [⟨some 14, none, .mv (.t 4)⟩,
       ⟨some 15, none, .bin .neq .num (.t 14) (.c (.int .i64 0))⟩])
     (.cond 15
      (.seq
       (.reg [⟨some 16, none, .mv (.t 4)⟩,
         ⟨some 2, none, .mv (.c (.nils))⟩,
         ⟨some 3, none, .mv (.t 16)⟩])
       .ret)
      .skip)))
   (.seq
    (.seq
     (.reg [⟨some 17, none, .mv (.t 0)⟩,
       ⟨some 18, none, .len false (.t 17)⟩,
       ⟨some 19, none, .mv (.c (.int .i64 0))⟩])
     (.block 0
      (.loop (.keep [0, 17, 18, 19] []
       (.seq
        (.reg [⟨some 20, none, .bin .lss .num (.t 19) (.t 18)⟩])
        (.seq
         (.cond 20
          .skip
          (.exit 0))
         (.seq
          (.block 1
           (.seq
            (.reg [⟨some 21, none, .idxA (.t 17) (.t 19) 8⟩,
              ⟨some 22, none, .load (.t 21) 8 true⟩,
              ⟨some 6, none, .alloc 6 [.int .i64 0, .int .i64 0, .str ⟨#[]⟩, .isl .fld [], .int .i64 0, .int .i64 0, .str ⟨#[]⟩, .isl .fld []]⟩,
              ⟨none, none, .store (.t 6) (.t 22) 8⟩])
            (.seq
             (.reg [⟨some 23, none, .mv (.t 0)⟩,
               ⟨some 24, none, .idxArr (.t 6) (.c (.int .i64 0)) 4 2⟩,
               ⟨some 25, none, .load (.t 24) 4 true⟩,
               ⟨some 26, none, .call 26 47 [(.t 23), (.c (.int .i64 1)), (.t 25)]⟩,
               ⟨some 27, none, .bin .lss .num (.t 26) (.c (.int .i64 0))⟩])
             (.cond 27
              (.seq
               (.reg [⟨some 2, none, .mv (.c (.nils))⟩,
                 ⟨some 3, none, .mv (.c (.int .i64 3))⟩])
               .ret)
              .skip))))
          (.reg [⟨some 28, none, .bin .add .num (.t 19) (.c (.int .i64 1))⟩,
            ⟨some 19, none, .mv (.t 28)⟩]))))))))
    (.seq
     (.reg [⟨some 29, none, .mv (.t 0)⟩,
       ⟨some 30, none, .len false (.t 29)⟩,
       ⟨some 31, none, .mk 31 .bool false 68719476736 (.t 30)⟩,
       ⟨some 7, none, .mv (.t 31)⟩])
     (.seq
      (.reg [⟨some 8, none, .mv (.c (.nils))⟩])
      (.seq
       (.seq
        (.reg [⟨some 32, none, .mv (.t 0)⟩,
          ⟨some 33, none, .len false (.t 32)⟩,
          ⟨some 34, none, .mv (.c (.int .i64 0))⟩])
        (.block 2
         (.own 8 .int (.sub (.s 8) 8) (.loop (.keep [0, 7, 8, 33, 34] [.s 31, (.sub (.s 8) 8)]
          (.seq
           (.own 8 .int (.sub (.s 8) 9) (.reg [⟨some 35, none, .bin .lss .num (.t 34) (.t 33)⟩]))
           (.seq
            (.cond 35
             .skip
             (.exit 2))
            (.seq
             (.block 3
              (.seq
               (.reg [⟨some 36, none, .mv (.t 34)⟩,
                 ⟨some 9, none, .mv (.t 36)⟩])
               (.seq
                (.reg [⟨some 10, none, .mv (.c (.int .i64 0))⟩])
                (.seq
                 (.seq
                  (.reg [⟨some 37, none, .mv (.t 9)⟩,
                    ⟨some 11, none, .mv (.t 37)⟩])
                  (.block 4
                   (.loop (.keep [0, 7, 8, 10, 11, 33, 34] [.s 31, (.sub (.s 8) 9)]
                    (.seq
                     (.seq
                      (.reg [⟨some 38, none, .mv (.t 7)⟩,
                        ⟨some 39, none, .mv (.t 11)⟩,
                        ⟨some 40, none, .idxA (.t 38) (.t 39) 1⟩,
                        ⟨some 41, none, .load (.t 40) 1 false⟩,
                        ⟨some 42, none, .un .not (.t 41)⟩])
                      (.cond 42
                       .skip
                       (.exit 4)))
                     (.seq
                      (.block 5
                       (.seq
                        (.reg [⟨some 50, none, .mv (.t 7)⟩,
                          ⟨some 51, none, .mv (.t 11)⟩,
                          ⟨some 52, none, .idxA (.t 50) (.t 51) 1⟩,
                          ⟨none, none, .store (.t 52) (.c (.bool true)) 1⟩])
                        (.reg [⟨some 53, none, .mv (.t 10)⟩,
                          ⟨some 54, none, .bin .add .num (.t 53) (.c (.int .i64 1))⟩,
                          ⟨some 10, none, .mv (.t 54)⟩])))
                      (.reg [⟨some 43, none, .mv (.t 0)⟩,
                        ⟨some 44, none, .mv (.t 0)⟩,
                        ⟨some 45, none, .mv (.t 11)⟩,
                        ⟨some 46, none, .idxA (.t 44) (.t 45) 8⟩,
                        ⟨some 47, none, .idxArr (.t 46) (.c (.int .i64 1)) 4 2⟩,
                        ⟨some 48, none, .load (.t 47) 4 true⟩,
                        ⟨some 49, none, .call 49 47 [(.t 43), (.c (.int .i64 0)), (.t 48)]⟩,
                        ⟨some 11, none, .mv (.t 49)⟩])))))))
                 (.seq
                  (.reg [⟨some 55, none, .mv (.t 10)⟩,
                    ⟨some 56, none, .bin .gtr .num (.t 55) (.c (.int .i64 0))⟩])
                  (.cond 56
                   (.reg [⟨some 57, none, .mv (.t 8)⟩,
                     ⟨some 58, none, .mv (.t 10)⟩,
                     ⟨some 59, none, .bsl .int [(.t 58)]⟩,
                     ⟨some 60, none, .app 60 .int 68719476736 (.t 57) (.t 59)⟩,
                     ⟨some 8, none, .mv (.t 60)⟩])
                   .skip))))))
             (.keep [0, 7, 8, 33, 34] [.s 31, (.sub (.s 8) 9), .s 60] (.own 8 .int (.sub (.s 8) 8) (.reg [⟨some 61, none, .bin .add .num (.t 34) (.c (.int .i64 1))⟩,
               ⟨some 34, none, .mv (.t 61)⟩])))))))))))
       (.seq
        (.reg [⟨some 62, none, .mv (.t 8)⟩,
          ⟨some 63, none, .call 63 346 [(.t 62)]⟩])
        (.seq
         (.fz 8 0 (.reg [⟨some 64, none, .mv (.t 8)⟩,
           ⟨some 2, none, .mv (.t 64)⟩,
           ⟨some 3, none, .mv (.c (.int .i64 0))⟩]))
         .ret))))))))⟩

/-- slices.Sort[[]int,int] -/
def ir346 : Fn TT := ⟨11, [],
 (.seq
  (.reg [⟨some 3, none, .mv (.t 0)⟩,
    ⟨some 4, none, .len false (.t 3)⟩,
    ⟨some 2, none, .mv (.t 4)⟩])
  (.reg [⟨some 5, none, .mv (.t 0)⟩,
    ⟨some 6, none, .mv (.t 2)⟩,
    ⟨some 7, none, .mv (.t 2)⟩,
    ⟨some 8, none, .conv .u64 (.t 7)⟩,
    ⟨some 9, none, .call 9 98 [(.t 8)]⟩,
    ⟨some 10, none, .call 10 369 [(.t 5), (.c (.int .i64 0)), (.t 6), (.t 9)]⟩]))⟩

/-- slices.pdqsortOrdered[int] -/
def ir369 : Fn TT := ⟨134, [],
 (.seq
  (.reg [⟨some 8, none, .mv (.c (.bool true))⟩])
  (.seq
   (.reg [⟨some 9, none, .mv (.c (.bool true))⟩])
   (.block 0
    (.loop (.keep [0, 1, 2, 3, 8, 9] [.x 0]
     (.block 1
      (.seq
       (.reg [⟨some 19, none, .mv (.t 2)⟩,
         ⟨some 20, none, .mv (.t 1)⟩,
         ⟨some 21, none, .bin .sub .num (.t 19) (.t 20)⟩,
         ⟨some 10, none, .mv (.t 21)⟩])
       (.seq
        (.seq
         (.reg [⟨some 22, none, .mv (.t 10)⟩,
           ⟨some 23, none, .bin .leq .num (.t 22) (.c (.int .i64 12))⟩])
         (.cond 23
          (.seq
           (.reg [⟨some 24, none, .mv (.t 0)⟩,
             ⟨some 25, none, .mv (.t 1)⟩,
             ⟨some 26, none, .mv (.t 2)⟩,
             ⟨some 27, none, .call 27 386 [(.t 24), (.t 25), (.t 26)]⟩])
           .ret)
          .skip))
        (.seq
         (.seq
          (.reg [⟨some 28, none, .mv (.t 3)⟩,
            ⟨some 29, none, .bin .eql .num (.t 28) (.c (.int .i64 0))⟩])
          (.cond 29
           (.seq
            (.reg [⟨some 30, none, .mv (.t 0)⟩,
              ⟨some 31, none, .mv (.t 1)⟩,
              ⟨some 32, none, .mv (.t 2)⟩,
              ⟨some 33, none, .call 33 387 [(.t 30), (.t 31), (.t 32)]⟩])
            .ret)
           .skip))
         (.seq
          (.seq
           (.reg [⟨some 34, none, .mv (.t 8)⟩,
             ⟨some 35, none, .un .not (.t 34)⟩])
           (.cond 35
            (.seq
             (.reg [⟨some 36, none, .mv (.t 0)⟩,
               ⟨some 37, none, .mv (.t 1)⟩,
               ⟨some 38, none, .mv (.t 2)⟩,
               ⟨some 39, none, .call 39 388 [(.t 36), (.t 37), (.t 38)]⟩])
             (.reg [⟨some 40, none, .mv (.t 3)⟩,
               ⟨some 41, none, .bin .sub .num (.t 40) (.c (.int .i64 1))⟩,
               ⟨some 3, none, .mv (.t 41)⟩]))
            .skip))
          (.seq
           (.reg [⟨some 43, none, .mv (.t 0)⟩,
             ⟨some 44, none, .mv (.t 1)⟩,
             ⟨some 45, none, .mv (.t 2)⟩,
             ⟨some 46, none, .call 46 389 [(.t 43), (.t 44), (.t 45)]⟩,
             ⟨some 42, none, .mv (.t 46)⟩,
             ⟨some 47, none, .ext (.t 42) 0⟩,
             ⟨some 48, none, .ext (.t 42) 1⟩,
             ⟨some 11, none, .mv (.t 47)⟩,
             ⟨some 12, none, .mv (.t 48)⟩])
           (.seq
            (.seq
             (.reg [⟨some 49, none, .mv (.t 12)⟩,
               ⟨some 50, none, .bin .eql .num (.t 49) (.c (.int .i64 2))⟩])
             (.cond 50
              (.seq
               (.reg [⟨some 51, none, .mv (.t 0)⟩,
                 ⟨some 52, none, .mv (.t 1)⟩,
                 ⟨some 53, none, .mv (.t 2)⟩,
                 ⟨some 54, none, .call 54 390 [(.t 51), (.t 52), (.t 53)]⟩])
               (.seq
                (.reg [⟨some 55, none, .mv (.t 2)⟩,
                  ⟨some 56, none, .bin .sub .num (.t 55) (.c (.int .i64 1))⟩,
                  ⟨some 57, none, .mv (.t 11)⟩,
                  ⟨some 58, none, .mv (.t 1)⟩,
                  ⟨some 59, none, .bin .sub .num (.t 57) (.t 58)⟩,
                  ⟨some 60, none, .bin .sub .num (.t 56) (.t 59)⟩,
                  ⟨some 11, none, .mv (.t 60)⟩])
                (.reg [⟨some 12, none, .mv (.c (.int .i64 1))⟩])))
              .skip))
            (.seq
             (.seq
              (.reg [⟨some 61, none, .mv (.t 8)⟩,
                ⟨some 62, none, .mv (.t 61)⟩,
                ⟨some 63, (some (62, true)), .mv (.t 9)⟩,
                ⟨some 64, none, .pick (.t 62) (.t 63) (.c (.bool false))⟩,
                ⟨some 65, none, .mv (.t 64)⟩,
                ⟨some 66, (some (65, true)), .mv (.t 12)⟩,
                ⟨some 67, (some (65, true)), .bin .eql .num (.t 66) (.c (.int .i64 1))⟩,
                ⟨some 68, none, .pick (.t 65) (.t 67) (.c (.bool false))⟩])
              (.cond 68
               (.seq
                (.reg [⟨some 69, none, .mv (.t 0)⟩,
                  ⟨some 70, none, .mv (.t 1)⟩,
                  ⟨some 71, none, .mv (.t 2)⟩,
                  ⟨some 72, none, .call 72 391 [(.t 69), (.t 70), (.t 71)]⟩])
                (.cond 72
                 .ret
                 .skip))
               .skip))
             (.seq
              (.seq
               (.drw [] (ol [0, 1, 2, 3, 4, 5, 6, 7, 8, 9, 10, 11, 12, 13, 14]) [] [0, 1, 2, 3, 4, 5, 6, 7, 8, 9, 10, 11, 13, 14] [⟨some 73, none, .mv (.t 1)⟩,
                 ⟨some 74, none, .bin .gtr .num (.t 73) (.c (.int .i64 0))⟩,
                 ⟨some 75, none, .mv (.t 74)⟩,
                 ⟨some 76, (some (75, true)), .mv (.t 0)⟩,
                 ⟨some 77, (some (75, true)), .mv (.t 1)⟩,
                 ⟨some 78, (some (75, true)), .bin .sub .num (.t 77) (.c (.int .i64 1))⟩,
                 ⟨some 79, (some (75, true)), .idxA (.t 76) (.t 78) 1⟩,
                 ⟨some 80, (some (75, true)), .load (.t 79) 1 false⟩,
                 ⟨some 81, (some (75, true)), .mv (.t 0)⟩,
                 ⟨some 82, (some (75, true)), .mv (.t 11)⟩,
                 ⟨some 83, (some (75, true)), .idxA (.t 81) (.t 82) 1⟩,
                 ⟨some 84, (some (75, true)), .load (.t 83) 1 false⟩,
                 ⟨some 85, (some (75, true)), .call 85 392 [(.t 80), (.t 84)]⟩,
                 ⟨some 86, (some (75, true)), .un .not (.t 85)⟩,
                 ⟨some 87, none, .pick (.t 75) (.t 86) (.c (.bool false))⟩])
               (.cond 87
                (.seq
                 (.reg [⟨some 88, none, .mv (.t 0)⟩,
                   ⟨some 89, none, .mv (.t 1)⟩,
                   ⟨some 90, none, .mv (.t 2)⟩,
                   ⟨some 91, none, .mv (.t 11)⟩,
                   ⟨some 92, none, .call 92 393 [(.t 88), (.t 89), (.t 90), (.t 91)]⟩,
                   ⟨some 13, none, .mv (.t 92)⟩])
                 (.seq
                  (.reg [⟨some 93, none, .mv (.t 13)⟩,
                    ⟨some 1, none, .mv (.t 93)⟩])
                  (.exit 1)))
                .skip))
              (.seq
               (.reg [⟨some 95, none, .mv (.t 0)⟩,
                 ⟨some 96, none, .mv (.t 1)⟩,
                 ⟨some 97, none, .mv (.t 2)⟩,
                 ⟨some 98, none, .mv (.t 11)⟩,
                 ⟨some 99, none, .call 99 394 [(.t 95), (.t 96), (.t 97), (.t 98)]⟩,
                 ⟨some 94, none, .mv (.t 99)⟩,
                 ⟨some 100, none, .ext (.t 94) 0⟩,
                 ⟨some 101, none, .ext (.t 94) 1⟩,
                 ⟨some 14, none, .mv (.t 100)⟩,
                 ⟨some 15, none, .mv (.t 101)⟩])
               (.seq
                (.reg [⟨some 102, none, .mv (.t 15)⟩,
                  ⟨some 9, none, .mv (.t 102)⟩])
                (.seq
                 (.reg [⟨some 103, none, .mv (.t 14)⟩,
                   ⟨some 104, none, .mv (.t 1)⟩,
                   ⟨some 105, none, .bin .sub .num (.t 103) (.t 104)⟩,
                   ⟨some 106, none, .mv (.t 2)⟩,
                   ⟨some 107, none, .mv (.t 14)⟩,
                   ⟨some 108, none, .bin .sub .num (.t 106) (.t 107)⟩,
                   ⟨some 16, none, .mv (.t 105)⟩,
                   ⟨some 17, none, .mv (.t 108)⟩])
                 (.seq
                  (.reg [⟨some 109, none, .mv (.t 10)⟩,
                    ⟨some 110, none, .bin .quo .num (.t 109) (.c (.int .i64 8))⟩,
                    ⟨some 18, none, .mv (.t 110)⟩])
                  (.seq
                   (.reg [⟨some 111, none, .mv (.t 16)⟩,
                     ⟨some 112, none, .mv (.t 17)⟩,
                     ⟨some 113, none, .bin .lss .num (.t 111) (.t 112)⟩])
                   (.cond 113
                    (.seq
                     (.reg [⟨some 114, none, .mv (.t 16)⟩,
                       ⟨some 115, none, .mv (.t 18)⟩,
                       ⟨some 116, none, .bin .geq .num (.t 114) (.t 115)⟩,
                       ⟨some 8, none, .mv (.t 116)⟩])
                     (.seq
                      (.reg [⟨some 117, none, .mv (.t 0)⟩,
                        ⟨some 118, none, .mv (.t 1)⟩,
                        ⟨some 119, none, .mv (.t 14)⟩,
                        ⟨some 120, none, .mv (.t 3)⟩,
                        ⟨some 121, none, .call 121 369 [(.t 117), (.t 118), (.t 119), (.t 120)]⟩])
                      (.reg [⟨some 122, none, .mv (.t 14)⟩,
                        ⟨some 123, none, .bin .add .num (.t 122) (.c (.int .i64 1))⟩,
                        ⟨some 1, none, .mv (.t 123)⟩])))
                    (.seq
                     (.reg [⟨some 124, none, .mv (.t 17)⟩,
                       ⟨some 125, none, .mv (.t 18)⟩,
                       ⟨some 126, none, .bin .geq .num (.t 124) (.t 125)⟩,
                       ⟨some 8, none, .mv (.t 126)⟩])
                     (.seq
                      (.reg [⟨some 127, none, .mv (.t 0)⟩,
                        ⟨some 128, none, .mv (.t 14)⟩,
                        ⟨some 129, none, .bin .add .num (.t 128) (.c (.int .i64 1))⟩,
                        ⟨some 130, none, .mv (.t 2)⟩,
                        ⟨some 131, none, .mv (.t 3)⟩,
                        ⟨some 132, none, .call 132 369 [(.t 127), (.t 129), (.t 130), (.t 131)]⟩])
                      (.reg [⟨some 133, none, .mv (.t 14)⟩,
                        ⟨some 2, none, .mv (.t 133)⟩])))))))))))))))))))))))⟩

/-- slices.insertionSortOrdered[int] -/
def ir386 : Fn TT := ⟨49, [],
 (.seq
  (.reg [⟨some 8, none, .mv (.t 1)⟩,
    ⟨some 9, none, .bin .add .num (.t 8) (.c (.int .i64 1))⟩,
    ⟨some 6, none, .mv (.t 9)⟩])
  (.block 0
   (.loop (.keep [0, 1, 2, 6] [.x 0]
    (.seq
     (.seq
      (.reg [⟨some 10, none, .mv (.t 6)⟩,
        ⟨some 11, none, .mv (.t 2)⟩,
        ⟨some 12, none, .bin .lss .num (.t 10) (.t 11)⟩])
      (.cond 12
       .skip
       (.exit 0)))
     (.seq
      (.block 1
       (.seq
        (.reg [⟨some 15, none, .mv (.t 6)⟩,
          ⟨some 7, none, .mv (.t 15)⟩])
        (.block 2
         (.loop (.keep [0, 1, 2, 6, 7] [.x 0]
          (.seq
           (.seq
            (.drw [] (ol [0, 1, 2, 3, 4, 5, 6, 7, 8, 9, 10, 11, 12, 13, 14]) [] [0, 1, 2, 3, 4, 5, 6, 7, 8, 9, 10, 11, 12, 14] [⟨some 16, none, .mv (.t 7)⟩,
              ⟨some 17, none, .mv (.t 1)⟩,
              ⟨some 18, none, .bin .gtr .num (.t 16) (.t 17)⟩,
              ⟨some 19, none, .mv (.t 18)⟩,
              ⟨some 20, (some (19, true)), .mv (.t 0)⟩,
              ⟨some 21, (some (19, true)), .mv (.t 7)⟩,
              ⟨some 22, (some (19, true)), .idxA (.t 20) (.t 21) 1⟩,
              ⟨some 23, (some (19, true)), .load (.t 22) 1 false⟩,
              ⟨some 24, (some (19, true)), .mv (.t 0)⟩,
              ⟨some 25, (some (19, true)), .mv (.t 7)⟩,
              ⟨some 26, (some (19, true)), .bin .sub .num (.t 25) (.c (.int .i64 1))⟩,
              ⟨some 27, (some (19, true)), .idxA (.t 24) (.t 26) 1⟩,
              ⟨some 28, (some (19, true)), .load (.t 27) 1 false⟩,
              ⟨some 29, (some (19, true)), .call 29 392 [(.t 23), (.t 28)]⟩,
              ⟨some 30, none, .pick (.t 19) (.t 29) (.c (.bool false))⟩])
            (.cond 30
             .skip
             (.exit 2)))
           (.seq
            (.block 3
             (.drw [] (ol [0, 1, 2, 3, 4, 5, 6, 7, 8, 9, 10, 11, 12, 13, 14, 15, 16, 17]) [15, 17] [0, 1, 2, 3, 4, 5, 6, 7, 8, 9, 10, 11, 12, 13, 14, 16] [⟨some 33, none, .mv (.t 0)⟩,
               ⟨some 34, none, .mv (.t 7)⟩,
               ⟨some 35, none, .mv (.t 0)⟩,
               ⟨some 36, none, .mv (.t 7)⟩,
               ⟨some 37, none, .bin .sub .num (.t 36) (.c (.int .i64 1))⟩,
               ⟨some 38, none, .mv (.t 0)⟩,
               ⟨some 39, none, .mv (.t 7)⟩,
               ⟨some 40, none, .bin .sub .num (.t 39) (.c (.int .i64 1))⟩,
               ⟨some 41, none, .idxA (.t 38) (.t 40) 1⟩,
               ⟨some 42, none, .load (.t 41) 1 false⟩,
               ⟨some 43, none, .mv (.t 0)⟩,
               ⟨some 44, none, .mv (.t 7)⟩,
               ⟨some 45, none, .idxA (.t 43) (.t 44) 1⟩,
               ⟨some 46, none, .load (.t 45) 1 false⟩,
               ⟨some 47, none, .idxA (.t 33) (.t 34) 1⟩,
               ⟨none, none, .store (.t 47) (.t 42) 1⟩,
               ⟨some 48, none, .idxA (.t 35) (.t 37) 1⟩,
               ⟨none, none, .store (.t 48) (.t 46) 1⟩]))
            (.reg [⟨some 31, none, .mv (.t 7)⟩,
              ⟨some 32, none, .bin .sub .num (.t 31) (.c (.int .i64 1))⟩,
              ⟨some 7, none, .mv (.t 32)⟩]))))))))
      (.reg [⟨some 13, none, .mv (.t 6)⟩,
        ⟨some 14, none, .bin .add .num (.t 13) (.c (.int .i64 1))⟩,
        ⟨some 6, none, .mv (.t 14)⟩])))))))⟩

/-- cmp.Less[int] -/
def ir392 : Fn TT := ⟨17, [.t 4],
 (.seq
  (.reg [⟨some 4, none, .mv (.c (.bool false))⟩])
  (.seq
   (.reg [⟨some 5, none, .mv (.t 0)⟩,
     ⟨some 6, none, .call 6 59 [(.t 5)]⟩,
     ⟨some 7, none, .mv (.t 6)⟩,
     ⟨some 8, (some (7, true)), .mv (.t 1)⟩,
     ⟨some 9, (some (7, true)), .call 9 59 [(.t 8)]⟩,
     ⟨some 10, (some (7, true)), .un .not (.t 9)⟩,
     ⟨some 11, none, .pick (.t 7) (.t 10) (.c (.bool false))⟩,
     ⟨some 12, none, .mv (.t 11)⟩,
     ⟨some 13, (some (12, false)), .mv (.t 0)⟩,
     ⟨some 14, (some (12, false)), .mv (.t 1)⟩,
     ⟨some 15, (some (12, false)), .bin .lss .num (.t 13) (.t 14)⟩,
     ⟨some 16, none, .pick (.t 12) (.c (.bool true)) (.t 15)⟩,
     ⟨some 4, none, .mv (.t 16)⟩])
   .ret))⟩

/-- slices.Equal[[]int,int] -/
def ir327 : Fn TT := ⟨26, [.t 4],
 (.seq
  (.reg [⟨some 4, none, .mv (.c (.bool false))⟩])
  (.seq
   (.seq
    (.reg [⟨some 6, none, .mv (.t 0)⟩,
      ⟨some 7, none, .len false (.t 6)⟩,
      ⟨some 8, none, .mv (.t 1)⟩,
      ⟨some 9, none, .len false (.t 8)⟩,
      ⟨some 10, none, .bin .neq .num (.t 7) (.t 9)⟩])
    (.cond 10
     (.seq
      (.reg [⟨some 4, none, .mv (.c (.bool false))⟩])
      .ret)
     .skip))
   (.seq
    (.seq
     (.reg [⟨some 11, none, .mv (.t 0)⟩,
       ⟨some 12, none, .len false (.t 11)⟩,
       ⟨some 13, none, .mv (.c (.int .i64 0))⟩])
     (.block 0
      (.loop (.keep [0, 1, 12, 13] []
       (.seq
        (.reg [⟨some 14, none, .bin .lss .num (.t 13) (.t 12)⟩])
        (.seq
         (.cond 14
          .skip
          (.exit 0))
         (.seq
          (.block 1
           (.seq
            (.reg [⟨some 15, none, .mv (.t 13)⟩,
              ⟨some 5, none, .mv (.t 15)⟩])
            (.seq
             (.drw [] (ol [0, 1, 2, 3, 4, 5, 6, 7, 8]) [] [0, 1, 2, 3, 4, 5, 6, 7, 8] [⟨some 16, none, .mv (.t 0)⟩,
               ⟨some 17, none, .mv (.t 5)⟩,
               ⟨some 18, none, .idxA (.t 16) (.t 17) 1⟩,
               ⟨some 19, none, .load (.t 18) 1 false⟩,
               ⟨some 20, none, .mv (.t 1)⟩,
               ⟨some 21, none, .mv (.t 5)⟩,
               ⟨some 22, none, .idxA (.t 20) (.t 21) 1⟩,
               ⟨some 23, none, .load (.t 22) 1 false⟩,
               ⟨some 24, none, .bin .neq .num (.t 19) (.t 23)⟩])
             (.cond 24
              (.seq
               (.reg [⟨some 4, none, .mv (.c (.bool false))⟩])
               .ret)
              .skip))))
          (.reg [⟨some 25, none, .bin .add .num (.t 13) (.c (.int .i64 1))⟩,
            ⟨some 13, none, .mv (.t 25)⟩]))))))))
    (.seq
     (.reg [⟨some 4, none, .mv (.c (.bool true))⟩])
     .ret))))⟩

/-- clapkeep3.DictCycles -/
def ir306 : Fn TT := ⟨66, [.t 4],
 (.seq
  (.reg [⟨some 4, none, .mv (.c (.bool false))⟩])
  (.seq
   (.reg [⟨some 15, none, .mv (.t 1)⟩,
     ⟨some 16, none, .call 16 26 [(.t 15), (.c (.int .i64 12))]⟩,
     ⟨some 17, none, .bin .add .num (.c (.int .i64 1)) (.t 16)⟩,
     ⟨some 1, none, .mv (.t 17)⟩])
   (.seq
    (.reg [⟨some 18, none, .mv (.t 0)⟩,
      ⟨some 19, none, .mv (.t 1)⟩,
      ⟨some 20, none, .call 20 27 [(.t 18), (.t 19)]⟩,
      ⟨some 5, none, .mv (.t 20)⟩])
    (.seq
     (.reg [⟨some 22, none, .mv (.t 5)⟩,
       ⟨some 23, none, .call 23 309 [(.t 22)]⟩,
       ⟨some 21, none, .mv (.t 23)⟩,
       ⟨some 24, none, .ext (.t 21) 0⟩,
       ⟨some 25, none, .ext (.t 21) 1⟩,
       ⟨some 6, none, .mv (.t 24)⟩,
       ⟨some 7, none, .mv (.t 25)⟩])
     (.seq
      (.reg [⟨some 27, none, .mv (.t 5)⟩,
        ⟨some 28, none, .call 28 326 [(.t 27)]⟩,
        ⟨some 26, none, .mv (.t 28)⟩,
        ⟨some 29, none, .ext (.t 26) 0⟩,
        ⟨some 30, none, .ext (.t 26) 1⟩,
        ⟨some 8, none, .mv (.t 29)⟩,
        ⟨some 9, none, .mv (.t 30)⟩])
      (.seq
       (.reg [⟨some 32, none, .mv (.t 6)⟩,
         ⟨some 33, none, .call 33 326 [(.t 32)]⟩,
         ⟨some 31, none, .mv (.t 33)⟩,
         ⟨some 34, none, .ext (.t 31) 0⟩,
         ⟨some 35, none, .ext (.t 31) 1⟩,
         ⟨some 10, none, .mv (.t 34)⟩,
         ⟨some 11, none, .mv (.t 35)⟩])
       (.seq
        (.reg [⟨some 12, none, .mv (.c (.int .i64 0))⟩])
        (.seq
         (.seq
          (.reg [⟨some 36, none, .mv (.t 8)⟩,
            ⟨some 37, none, .len false (.t 36)⟩,
            ⟨some 38, none, .mv (.c (.int .i64 0))⟩])
          (.block 0
           (.loop (.keep [1, 7, 8, 9, 10, 11, 12, 36, 37, 38] []
            (.seq
             (.reg [⟨some 39, none, .bin .lss .num (.t 38) (.t 37)⟩])
             (.seq
              (.cond 39
               .skip
               (.exit 0))
              (.seq
               (.block 1
                (.seq
                 (.reg [⟨some 40, none, .idxA (.t 36) (.t 38) 1⟩,
                   ⟨some 41, none, .load (.t 40) 1 false⟩,
                   ⟨some 14, none, .mv (.t 41)⟩])
                 (.reg [⟨some 42, none, .mv (.t 12)⟩,
                   ⟨some 43, none, .mv (.t 14)⟩,
                   ⟨some 44, none, .bin .add .num (.t 42) (.t 43)⟩,
                   ⟨some 12, none, .mv (.t 44)⟩])))
               (.reg [⟨some 45, none, .bin .add .num (.t 38) (.c (.int .i64 1))⟩,
                 ⟨some 38, none, .mv (.t 45)⟩]))))))))
         (.seq
          (.reg [⟨some 46, none, .mv (.t 7)⟩,
            ⟨some 47, none, .bin .eql .num (.t 46) (.c (.int .i64 0))⟩,
            ⟨some 48, none, .mv (.t 47)⟩,
            ⟨some 49, (some (48, true)), .mv (.t 9)⟩,
            ⟨some 50, (some (48, true)), .bin .eql .num (.t 49) (.c (.int .i64 0))⟩,
            ⟨some 51, none, .pick (.t 48) (.t 50) (.c (.bool false))⟩,
            ⟨some 52, none, .mv (.t 51)⟩,
            ⟨some 53, (some (52, true)), .mv (.t 11)⟩,
            ⟨some 54, (some (52, true)), .bin .eql .num (.t 53) (.c (.int .i64 0))⟩,
            ⟨some 55, none, .pick (.t 52) (.t 54) (.c (.bool false))⟩,
            ⟨some 56, none, .mv (.t 55)⟩,
            ⟨some 57, (some (56, true)), .mv (.t 12)⟩,
            ⟨some 58, (some (56, true)), .mv (.t 1)⟩,
            ⟨some 59, (some (56, true)), .bin .eql .num (.t 57) (.t 58)⟩,
            ⟨some 60, none, .pick (.t 56) (.t 59) (.c (.bool false))⟩,
            ⟨some 61, none, .mv (.t 60)⟩,
            ⟨some 62, (some (61, true)), .mv (.t 8)⟩,
            ⟨some 63, (some (61, true)), .mv (.t 10)⟩,
            ⟨some 64, (some (61, true)), .call 64 327 [(.t 62), (.t 63)]⟩,
            ⟨some 65, none, .pick (.t 61) (.t 64) (.c (.bool false))⟩,
            ⟨some 4, none, .mv (.t 65)⟩])
          .ret)))))))))⟩

end Go.Clap
