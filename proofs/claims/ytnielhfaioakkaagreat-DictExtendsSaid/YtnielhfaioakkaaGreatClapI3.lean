/- PRINTED by mkir.py: the small code of the loaded functions. -/
import Derived.Test.YtnielhfaioakkaaGreatClapV9
namespace Go.Clap

/-- align.Check -/
def ir12 : Fn TT := ⟨76, [.t 6],
 (.seq
  (.reg [⟨some 6, none, .mv (.c (.int .i64 0))⟩])
  (.seq
   (.seq
    (.reg [⟨some 11, none, .mv (.t 1)⟩,
      ⟨some 12, none, .bin .lss .num (.t 11) (.c (.int .i64 0))⟩,
      ⟨some 13, none, .mv (.t 12)⟩,
      ⟨some 14, (some (13, false)), .mv (.t 2)⟩,
      ⟨some 15, (some (13, false)), .bin .lss .num (.t 14) (.c (.int .i64 0))⟩,
      ⟨some 16, none, .pick (.t 13) (.c (.bool true)) (.t 15)⟩,
      ⟨some 17, none, .mv (.t 16)⟩,
      ⟨some 18, (some (17, false)), .mv (.t 1)⟩,
      ⟨some 19, (some (17, false)), .bin .gtr .num (.t 18) (.c (.int .i64 200))⟩,
      ⟨some 20, none, .pick (.t 17) (.c (.bool true)) (.t 19)⟩,
      ⟨some 21, none, .mv (.t 20)⟩,
      ⟨some 22, (some (21, false)), .mv (.t 2)⟩,
      ⟨some 23, (some (21, false)), .bin .gtr .num (.t 22) (.c (.int .i64 200))⟩,
      ⟨some 24, none, .pick (.t 21) (.c (.bool true)) (.t 23)⟩])
    (.cond 24
     (.seq
      (.reg [⟨some 6, none, .mv (.c (.int .i64 1))⟩])
      .ret)
     .skip))
   (.seq
    (.drw [] (.go 0 (.go 2 (.alt 1 (.go 4 (.go 3 (.go 5 .nil))) 3 (.go 1 (.go 4 (.go 5 .nil)))))) [] [0, 2, 4, 5] [⟨some 25, none, .mv (.t 1)⟩,
      ⟨some 26, none, .mk 26 .bool false 68719476736 (.t 25)⟩,
      ⟨some 27, none, .mv (.t 2)⟩,
      ⟨some 28, none, .mk 28 .bool false 68719476736 (.t 27)⟩,
      ⟨some 7, none, .mv (.t 26)⟩,
      ⟨some 8, none, .mv (.t 28)⟩])
    (.seq
     (.seq
      (.reg [⟨some 29, none, .mv (.t 0)⟩,
        ⟨some 30, none, .len false (.t 29)⟩,
        ⟨some 31, none, .mv (.c (.int .i64 0))⟩])
      (.block 0
       (.loop (.keep [1, 2, 7, 8, 29, 30, 31] [.s 26, .s 28]
        (.seq
         (.reg [⟨some 32, none, .bin .lss .num (.t 31) (.t 30)⟩])
         (.seq
          (.cond 32
           .skip
           (.exit 0))
          (.seq
           (.block 1
            (.seq
             (.reg [⟨some 33, none, .idxA (.t 29) (.t 31) 2⟩,
               ⟨some 34, none, .load (.t 33) 2 true⟩,
               ⟨some 10, none, .alloc 10 [.int .i64 0, .int .i64 0]⟩,
               ⟨none, none, .store (.t 10) (.t 34) 2⟩])
             (.seq
              (.seq
               (.reg [⟨some 35, none, .fa (.t 10) 0⟩,
                 ⟨some 36, none, .load (.t 35) 1 false⟩,
                 ⟨some 37, none, .bin .lss .num (.t 36) (.c (.int .i64 0))⟩,
                 ⟨some 38, none, .mv (.t 37)⟩,
                 ⟨some 39, (some (38, false)), .fa (.t 10) 0⟩,
                 ⟨some 40, (some (38, false)), .load (.t 39) 1 false⟩,
                 ⟨some 41, (some (38, false)), .mv (.t 1)⟩,
                 ⟨some 42, (some (38, false)), .bin .geq .num (.t 40) (.t 41)⟩,
                 ⟨some 43, none, .pick (.t 38) (.c (.bool true)) (.t 42)⟩,
                 ⟨some 44, none, .mv (.t 43)⟩,
                 ⟨some 45, (some (44, false)), .fa (.t 10) 1⟩,
                 ⟨some 46, (some (44, false)), .load (.t 45) 1 false⟩,
                 ⟨some 47, (some (44, false)), .bin .lss .num (.t 46) (.c (.int .i64 0))⟩,
                 ⟨some 48, none, .pick (.t 44) (.c (.bool true)) (.t 47)⟩,
                 ⟨some 49, none, .mv (.t 48)⟩,
                 ⟨some 50, (some (49, false)), .fa (.t 10) 1⟩,
                 ⟨some 51, (some (49, false)), .load (.t 50) 1 false⟩,
                 ⟨some 52, (some (49, false)), .mv (.t 2)⟩,
                 ⟨some 53, (some (49, false)), .bin .geq .num (.t 51) (.t 52)⟩,
                 ⟨some 54, none, .pick (.t 49) (.c (.bool true)) (.t 53)⟩])
               (.cond 54
                (.seq
                 (.reg [⟨some 6, none, .mv (.c (.int .i64 11))⟩])
                 .ret)
                .skip))
              (.seq
               (.seq
                (.reg [⟨some 55, none, .mv (.t 7)⟩,
                  ⟨some 56, none, .fa (.t 10) 0⟩,
                  ⟨some 57, none, .load (.t 56) 1 false⟩,
                  ⟨some 58, none, .idxA (.t 55) (.t 57) 1⟩,
                  ⟨some 59, none, .load (.t 58) 1 false⟩,
                  ⟨some 60, none, .mv (.t 59)⟩,
                  ⟨some 61, (some (60, false)), .mv (.t 8)⟩,
                  ⟨some 62, (some (60, false)), .fa (.t 10) 1⟩,
                  ⟨some 63, (some (60, false)), .load (.t 62) 1 false⟩,
                  ⟨some 64, (some (60, false)), .idxA (.t 61) (.t 63) 1⟩,
                  ⟨some 65, (some (60, false)), .load (.t 64) 1 false⟩,
                  ⟨some 66, none, .pick (.t 60) (.c (.bool true)) (.t 65)⟩])
                (.cond 66
                 (.seq
                  (.reg [⟨some 6, none, .mv (.c (.int .i64 5))⟩])
                  .ret)
                 .skip))
               (.drw [.s 26, .s 28] (ol [0, 1, 2, 3, 4, 5, 6, 7, 8, 9]) [9] [0, 1, 2, 3, 4, 5, 6, 8] [⟨some 67, none, .mv (.t 7)⟩,
                 ⟨some 68, none, .fa (.t 10) 0⟩,
                 ⟨some 69, none, .load (.t 68) 1 false⟩,
                 ⟨some 70, none, .mv (.t 8)⟩,
                 ⟨some 71, none, .fa (.t 10) 1⟩,
                 ⟨some 72, none, .load (.t 71) 1 false⟩,
                 ⟨some 73, none, .idxA (.t 67) (.t 69) 1⟩,
                 ⟨none, none, .store (.t 73) (.c (.bool true)) 1⟩,
                 ⟨some 74, none, .idxA (.t 70) (.t 72) 1⟩,
                 ⟨none, none, .store (.t 74) (.c (.bool true)) 1⟩])))))
           (.reg [⟨some 75, none, .bin .add .num (.t 31) (.c (.int .i64 1))⟩,
             ⟨some 31, none, .mv (.t 75)⟩]))))))))
     (.seq
      (.reg [⟨some 6, none, .mv (.c (.int .i64 0))⟩])
      .ret)))))⟩

/-- align.Crossings -/
def ir13 : Fn TT := ⟨54, [.t 2],
 (.seq
  (.reg [⟨some 2, none, .mv (.c (.int .i64 0))⟩])
  (.seq
   (.reg [⟨some 3, none, .mv (.c (.int .i64 0))⟩])
   (.seq
    (.seq
     (.reg [⟨some 8, none, .mv (.t 0)⟩,
       ⟨some 9, none, .len false (.t 8)⟩,
       ⟨some 10, none, .mv (.c (.int .i64 0))⟩])
     (.block 0
      (.loop (.keep [0, 3, 8, 9, 10] []
       (.seq
        (.reg [⟨some 11, none, .bin .lss .num (.t 10) (.t 9)⟩])
        (.seq
         (.cond 11
          .skip
          (.exit 0))
         (.seq
          (.block 1
           (.seq
            (.reg [⟨some 12, none, .mv (.t 10)⟩,
              ⟨some 13, none, .idxA (.t 8) (.t 10) 2⟩,
              ⟨some 14, none, .load (.t 13) 2 true⟩,
              ⟨some 5, none, .alloc 5 [.int .i64 0, .int .i64 0]⟩,
              ⟨some 4, none, .mv (.t 12)⟩,
              ⟨none, none, .store (.t 5) (.t 14) 2⟩])
            (.seq
             (.reg [⟨some 15, none, .mv (.t 0)⟩,
               ⟨some 16, none, .mv (.t 4)⟩,
               ⟨some 17, none, .slc 2 (.t 15) none (some (.t 16))⟩,
               ⟨some 18, none, .len false (.t 17)⟩,
               ⟨some 19, none, .mv (.c (.int .i64 0))⟩])
             (.block 2
              (.loop (.keep [0, 3, 5, 8, 9, 10, 17, 18, 19] [.s 5]
               (.seq
                (.reg [⟨some 20, none, .bin .lss .num (.t 19) (.t 18)⟩])
                (.seq
                 (.cond 20
                  .skip
                  (.exit 2))
                 (.seq
                  (.block 3
                   (.seq
                    (.reg [⟨some 21, none, .idxA (.t 17) (.t 19) 2⟩,
                      ⟨some 22, none, .load (.t 21) 2 true⟩,
                      ⟨some 7, none, .alloc 7 [.int .i64 0, .int .i64 0]⟩,
                      ⟨none, none, .store (.t 7) (.t 22) 2⟩])
                    (.seq
                     (.reg [⟨some 23, none, .fa (.t 5) 0⟩,
                       ⟨some 24, none, .load (.t 23) 1 false⟩,
                       ⟨some 25, none, .fa (.t 7) 0⟩,
                       ⟨some 26, none, .load (.t 25) 1 false⟩,
                       ⟨some 27, none, .bin .lss .num (.t 24) (.t 26)⟩,
                       ⟨some 28, none, .mv (.t 27)⟩,
                       ⟨some 29, (some (28, true)), .fa (.t 5) 1⟩,
                       ⟨some 30, (some (28, true)), .load (.t 29) 1 false⟩,
                       ⟨some 31, (some (28, true)), .fa (.t 7) 1⟩,
                       ⟨some 32, (some (28, true)), .load (.t 31) 1 false⟩,
                       ⟨some 33, (some (28, true)), .bin .gtr .num (.t 30) (.t 32)⟩,
                       ⟨some 34, none, .pick (.t 28) (.t 33) (.c (.bool false))⟩,
                       ⟨some 35, none, .mv (.t 34)⟩,
                       ⟨some 36, (some (35, false)), .fa (.t 5) 0⟩,
                       ⟨some 37, (some (35, false)), .load (.t 36) 1 false⟩,
                       ⟨some 38, (some (35, false)), .fa (.t 7) 0⟩,
                       ⟨some 39, (some (35, false)), .load (.t 38) 1 false⟩,
                       ⟨some 40, (some (35, false)), .bin .gtr .num (.t 37) (.t 39)⟩,
                       ⟨some 41, (some (35, false)), .mv (.t 40)⟩,
                       ⟨some 42, (some (41, true)), .fa (.t 5) 1⟩,
                       ⟨some 43, (some (41, true)), .load (.t 42) 1 false⟩,
                       ⟨some 44, (some (41, true)), .fa (.t 7) 1⟩,
                       ⟨some 45, (some (41, true)), .load (.t 44) 1 false⟩,
                       ⟨some 46, (some (41, true)), .bin .lss .num (.t 43) (.t 45)⟩,
                       ⟨some 47, (some (35, false)), .pick (.t 41) (.t 46) (.c (.bool false))⟩,
                       ⟨some 48, none, .pick (.t 35) (.c (.bool true)) (.t 47)⟩])
                     (.cond 48
                      (.reg [⟨some 49, none, .mv (.t 3)⟩,
                        ⟨some 50, none, .bin .add .num (.t 49) (.c (.int .i64 1))⟩,
                        ⟨some 3, none, .mv (.t 50)⟩])
                      .skip))))
                  (.reg [⟨some 51, none, .bin .add .num (.t 19) (.c (.int .i64 1))⟩,
                    ⟨some 19, none, .mv (.t 51)⟩]))))))))))
          (.reg [⟨some 52, none, .bin .add .num (.t 10) (.c (.int .i64 1))⟩,
            ⟨some 10, none, .mv (.t 52)⟩]))))))))
    (.seq
     (.reg [⟨some 53, none, .mv (.t 3)⟩,
       ⟨some 2, none, .mv (.t 53)⟩])
     .ret))))⟩

/-- clapkeep3.cost -/
def ir14 : Fn TT := ⟨47, [.t 6],
 (.seq
  (.reg [⟨some 3, none, .box 3 (.t 0)⟩,
    ⟨some 4, none, .box 4 (.t 1)⟩,
    ⟨some 6, none, .mv (.c (.int .i64 0))⟩])
  (.seq
   (.reg [⟨some 10, none, .fa (.t 3) 3⟩,
     ⟨some 11, none, .load (.t 10) 1 false⟩,
     ⟨some 12, none, .len false (.t 11)⟩,
     ⟨some 13, none, .fa (.t 4) 3⟩,
     ⟨some 14, none, .load (.t 13) 1 false⟩,
     ⟨some 15, none, .len false (.t 14)⟩,
     ⟨some 16, none, .bin .add .num (.t 12) (.t 15)⟩,
     ⟨some 17, none, .mv (.t 2)⟩,
     ⟨some 18, none, .len false (.t 17)⟩,
     ⟨some 19, none, .bin .mul .num (.c (.int .i64 2)) (.t 18)⟩,
     ⟨some 20, none, .bin .sub .num (.t 16) (.t 19)⟩,
     ⟨some 21, none, .bin .mul .num (.c (.int .i64 2)) (.t 20)⟩,
     ⟨some 7, none, .mv (.t 21)⟩])
   (.seq
    (.seq
     (.reg [⟨some 22, none, .mv (.t 2)⟩,
       ⟨some 23, none, .len false (.t 22)⟩,
       ⟨some 24, none, .mv (.c (.int .i64 0))⟩])
     (.block 0
      (.loop (.keep [3, 4, 7, 22, 23, 24] [.s 3, .s 4]
       (.seq
        (.reg [⟨some 25, none, .bin .lss .num (.t 24) (.t 23)⟩])
        (.seq
         (.cond 25
          .skip
          (.exit 0))
         (.seq
          (.block 1
           (.seq
            (.reg [⟨some 26, none, .idxA (.t 22) (.t 24) 2⟩,
              ⟨some 27, none, .load (.t 26) 2 true⟩,
              ⟨some 9, none, .alloc 9 [.int .i64 0, .int .i64 0]⟩,
              ⟨none, none, .store (.t 9) (.t 27) 2⟩])
            (.drw [] (ol [0, 1, 2, 3, 4, 5, 6, 7, 8, 9, 10, 11, 12, 13, 14, 15, 16, 17]) [] [0, 1, 2, 3, 4, 5, 6, 7, 8, 9, 10, 11, 12, 13, 14, 16, 17] [⟨some 28, none, .mv (.t 7)⟩,
              ⟨some 29, none, .fa (.t 3) 3⟩,
              ⟨some 30, none, .load (.t 29) 1 false⟩,
              ⟨some 31, none, .fa (.t 9) 0⟩,
              ⟨some 32, none, .load (.t 31) 1 false⟩,
              ⟨some 33, none, .idxA (.t 30) (.t 32) 5⟩,
              ⟨some 34, none, .fa (.t 33) 1⟩,
              ⟨some 35, none, .load (.t 34) 4 true⟩,
              ⟨some 36, none, .fa (.t 4) 3⟩,
              ⟨some 37, none, .load (.t 36) 1 false⟩,
              ⟨some 38, none, .fa (.t 9) 1⟩,
              ⟨some 39, none, .load (.t 38) 1 false⟩,
              ⟨some 40, none, .idxA (.t 37) (.t 39) 5⟩,
              ⟨some 41, none, .fa (.t 40) 1⟩,
              ⟨some 42, none, .load (.t 41) 4 true⟩,
              ⟨some 43, none, .call 43 33 [(.t 35), (.t 42)]⟩,
              ⟨some 44, none, .bin .add .num (.t 28) (.t 43)⟩,
              ⟨some 7, none, .mv (.t 44)⟩])))
          (.reg [⟨some 45, none, .bin .add .num (.t 24) (.c (.int .i64 1))⟩,
            ⟨some 24, none, .mv (.t 45)⟩]))))))))
    (.seq
     (.reg [⟨some 46, none, .mv (.t 7)⟩,
       ⟨some 6, none, .mv (.t 46)⟩])
     .ret))))⟩

/-- (*clapmake.Stream).Next -/
def ir15 : Fn TT := ⟨33, [.t 4],
 (.seq
  (.reg [⟨some 4, none, .mv (.c (.int .i64 0))⟩])
  (.seq
   (.seq
    (.reg [⟨some 6, none, .mv (.t 1)⟩,
      ⟨some 7, none, .bin .lss .num (.t 6) (.c (.int .i64 1))⟩,
      ⟨some 8, none, .mv (.t 7)⟩,
      ⟨some 9, (some (8, false)), .mv (.t 0)⟩,
      ⟨some 10, (some (8, false)), .nilck (.t 9)⟩,
      ⟨some 11, (some (8, false)), .fa (.t 10) 0⟩,
      ⟨some 12, (some (8, false)), .load (.t 11) 1 false⟩,
      ⟨some 13, (some (8, false)), .len false (.t 12)⟩,
      ⟨some 14, (some (8, false)), .bin .eql .num (.t 13) (.c (.int .i64 0))⟩,
      ⟨some 15, none, .pick (.t 8) (.c (.bool true)) (.t 14)⟩])
    (.cond 15
     (.seq
      (.reg [⟨some 4, none, .mv (.c (.int .i64 0))⟩])
      .ret)
     .skip))
   (.seq
    (.reg [⟨some 16, none, .mv (.t 0)⟩,
      ⟨some 17, none, .nilck (.t 16)⟩,
      ⟨some 18, none, .fa (.t 17) 0⟩,
      ⟨some 19, none, .load (.t 18) 1 false⟩,
      ⟨some 20, none, .idxA (.t 19) (.c (.int .i64 0)) 1⟩,
      ⟨some 21, none, .load (.t 20) 1 false⟩,
      ⟨some 5, none, .mv (.t 21)⟩])
    (.seq
     (.reg [⟨some 22, none, .mv (.t 0)⟩,
       ⟨some 23, none, .mv (.t 0)⟩,
       ⟨some 24, none, .nilck (.t 23)⟩,
       ⟨some 25, none, .fa (.t 24) 0⟩,
       ⟨some 26, none, .load (.t 25) 1 false⟩,
       ⟨some 27, none, .slc 1 (.t 26) (some (.c (.int .i64 1))) none⟩,
       ⟨some 28, none, .nilck (.t 22)⟩,
       ⟨some 29, none, .fa (.t 28) 0⟩,
       ⟨none, none, .store (.t 29) (.t 27) 1⟩])
     (.seq
      (.reg [⟨some 30, none, .mv (.t 5)⟩,
        ⟨some 31, none, .mv (.t 1)⟩,
        ⟨some 32, none, .call 32 26 [(.t 30), (.t 31)]⟩,
        ⟨some 4, none, .mv (.t 32)⟩])
      .ret)))))⟩

/-- clapkeep3.AlignLeast -/
def ir4 : Fn TT := ⟨98, [.t 6],
 (.seq
  (.reg [⟨some 6, none, .mv (.c (.bool false))⟩])
  (.seq
   (.reg [⟨some 16, none, .mv (.t 0)⟩,
     ⟨some 17, none, .call 17 8 [(.t 16)]⟩,
     ⟨some 18, none, .mv (.t 1)⟩,
     ⟨some 19, none, .call 19 8 [(.t 18)]⟩,
     ⟨some 7, none, .alloc 7 [.int .i64 0, .int .i64 0, .str ⟨#[]⟩, .isl .fld []]⟩,
     ⟨some 8, none, .alloc 8 [.int .i64 0, .int .i64 0, .str ⟨#[]⟩, .isl .fld []]⟩,
     ⟨none, none, .store (.t 7) (.t 17) 4⟩,
     ⟨none, none, .store (.t 8) (.t 19) 4⟩])
   (.seq
    (.reg [⟨some 21, none, .load (.t 7) 4 true⟩,
      ⟨some 22, none, .load (.t 8) 4 true⟩,
      ⟨some 23, none, .call 23 9 [(.t 21), (.t 22)]⟩,
      ⟨some 20, none, .mv (.t 23)⟩,
      ⟨some 24, none, .ext (.t 20) 0⟩,
      ⟨some 25, none, .ext (.t 20) 1⟩,
      ⟨some 26, none, .ext (.t 20) 2⟩,
      ⟨some 9, none, .mv (.t 24)⟩,
      ⟨some 10, none, .mv (.t 25)⟩,
      ⟨some 11, none, .mv (.t 26)⟩])
    (.seq
     (.seq
      (.reg [⟨some 27, none, .call 27 10 []⟩,
        ⟨some 28, none, .un .not (.t 27)⟩,
        ⟨some 29, none, .mv (.t 28)⟩,
        ⟨some 30, (some (29, false)), .mv (.t 11)⟩,
        ⟨some 31, (some (29, false)), .bin .neq .num (.t 30) (.c (.int .i64 0))⟩,
        ⟨some 32, none, .pick (.t 29) (.c (.bool true)) (.t 31)⟩,
        ⟨some 33, none, .mv (.t 32)⟩,
        ⟨some 34, (some (33, false)), .mv (.t 9)⟩,
        ⟨some 35, (some (33, false)), .fa (.t 7) 3⟩,
        ⟨some 36, (some (33, false)), .load (.t 35) 1 false⟩,
        ⟨some 37, (some (33, false)), .len false (.t 36)⟩,
        ⟨some 38, (some (33, false)), .fa (.t 8) 3⟩,
        ⟨some 39, (some (33, false)), .load (.t 38) 1 false⟩,
        ⟨some 40, (some (33, false)), .len false (.t 39)⟩,
        ⟨some 41, (some (33, false)), .call 41 12 [(.t 34), (.t 37), (.t 40)]⟩,
        ⟨some 42, (some (33, false)), .bin .neq .num (.t 41) (.c (.int .i64 0))⟩,
        ⟨some 43, none, .pick (.t 33) (.c (.bool true)) (.t 42)⟩,
        ⟨some 44, none, .mv (.t 43)⟩,
        ⟨some 45, (some (44, false)), .mv (.t 9)⟩,
        ⟨some 46, (some (44, false)), .call 46 13 [(.t 45)]⟩,
        ⟨some 47, (some (44, false)), .bin .neq .num (.t 46) (.c (.int .i64 0))⟩,
        ⟨some 48, none, .pick (.t 44) (.c (.bool true)) (.t 47)⟩,
        ⟨some 49, none, .mv (.t 48)⟩,
        ⟨some 50, (some (49, false)), .load (.t 7) 4 true⟩,
        ⟨some 51, (some (49, false)), .load (.t 8) 4 true⟩,
        ⟨some 52, (some (49, false)), .mv (.t 9)⟩,
        ⟨some 53, (some (49, false)), .call 53 14 [(.t 50), (.t 51), (.t 52)]⟩,
        ⟨some 54, (some (49, false)), .mv (.t 10)⟩,
        ⟨some 55, (some (49, false)), .bin .neq .num (.t 53) (.t 54)⟩,
        ⟨some 56, none, .pick (.t 49) (.c (.bool true)) (.t 55)⟩])
      (.cond 56
       (.seq
        (.reg [⟨some 6, none, .mv (.c (.bool false))⟩])
        .ret)
       .skip))
     (.seq
      (.reg [⟨some 57, none, .mv (.t 2)⟩,
        ⟨some 58, none, .build [.isl .int []] [((0, 1), (.t 57))]⟩,
        ⟨some 59, none, .box 59 (.t 58)⟩,
        ⟨some 12, none, .mv (.t 59)⟩])
      (.seq
       (.reg [⟨some 13, none, .mv (.c (.nils))⟩])
       (.seq
        (.seq
         (.reg [⟨some 14, none, .mv (.c (.int .i64 0))⟩,
           ⟨some 15, none, .mv (.c (.int .i64 0))⟩])
         (.block 0
          (.own 13 .pair (.sub (.s 13) 13) (.loop (.keep [7, 8, 10, 12, 13, 14, 15] [.s 7, .s 8, .s 59, (.sub (.s 13) 13)]
           (.seq
            (.seq
             (.reg [⟨some 60, none, .mv (.t 14)⟩,
               ⟨some 61, none, .fa (.t 7) 3⟩,
               ⟨some 62, none, .load (.t 61) 1 false⟩,
               ⟨some 63, none, .len false (.t 62)⟩,
               ⟨some 64, none, .bin .lss .num (.t 60) (.t 63)⟩,
               ⟨some 65, none, .mv (.t 64)⟩,
               ⟨some 66, (some (65, true)), .mv (.t 15)⟩,
               ⟨some 67, (some (65, true)), .fa (.t 8) 3⟩,
               ⟨some 68, (some (65, true)), .load (.t 67) 1 false⟩,
               ⟨some 69, (some (65, true)), .len false (.t 68)⟩,
               ⟨some 70, (some (65, true)), .bin .lss .num (.t 66) (.t 69)⟩,
               ⟨some 71, none, .pick (.t 65) (.t 70) (.c (.bool false))⟩])
             (.cond 71
              .skip
              (.exit 0)))
            (.block 1
             (.seq
              (.reg [⟨some 72, none, .mv (.t 12)⟩,
                ⟨some 73, none, .call 73 15 [(.t 72), (.c (.int .i64 3))]⟩])
              (.block 2
               (.seq
                (.reg [⟨some 77, none, .bin .eql .num (.t 73) (.c (.int .i64 0))⟩,
                  ⟨some 76, none, .mv (.t 77)⟩])
                (.cond 76
                 (.seq
                  (.reg [⟨some 78, none, .mv (.t 13)⟩,
                    ⟨some 79, none, .mv (.t 14)⟩,
                    ⟨some 80, none, .mv (.t 15)⟩,
                    ⟨some 81, none, .build [.int .i64 0, .int .i64 0] [((0, 1), (.t 79)), ((1, 1), (.t 80))]⟩,
                    ⟨some 82, none, .bsl .pair [(.t 81)]⟩,
                    ⟨some 83, none, .app 83 .pair 68719476736 (.t 78) (.t 82)⟩,
                    ⟨some 13, none, .mv (.t 83)⟩])
                  (.keep [7, 8, 10, 12, 13, 14, 15] [.s 7, .s 8, .s 59, .s 83] (.own 13 .pair (.sub (.s 13) 13) (.reg [⟨some 84, none, .mv (.t 14)⟩,
                    ⟨some 85, none, .bin .add .num (.t 84) (.c (.int .i64 1))⟩,
                    ⟨some 86, none, .mv (.t 15)⟩,
                    ⟨some 87, none, .bin .add .num (.t 86) (.c (.int .i64 1))⟩,
                    ⟨some 14, none, .mv (.t 85)⟩,
                    ⟨some 15, none, .mv (.t 87)⟩]))))
                 (.seq
                  (.reg [⟨some 89, none, .bin .eql .num (.t 73) (.c (.int .i64 1))⟩,
                    ⟨some 88, none, .mv (.t 89)⟩])
                  (.cond 88
                   (.reg [⟨some 90, none, .mv (.t 14)⟩,
                     ⟨some 91, none, .bin .add .num (.t 90) (.c (.int .i64 1))⟩,
                     ⟨some 14, none, .mv (.t 91)⟩])
                   (.reg [⟨some 74, none, .mv (.t 15)⟩,
                     ⟨some 75, none, .bin .add .num (.t 74) (.c (.int .i64 1))⟩,
                     ⟨some 15, none, .mv (.t 75)⟩]))))))))))))))
        (.seq
         (.fz 13 0 (.reg [⟨some 92, none, .load (.t 7) 4 true⟩,
           ⟨some 93, none, .load (.t 8) 4 true⟩,
           ⟨some 94, none, .mv (.t 13)⟩,
           ⟨some 95, none, .call 95 14 [(.t 92), (.t 93), (.t 94)]⟩,
           ⟨some 96, none, .mv (.t 10)⟩,
           ⟨some 97, none, .bin .geq .num (.t 95) (.t 96)⟩,
           ⟨some 6, none, .mv (.t 97)⟩]))
         .ret))))))))⟩

end Go.Clap
