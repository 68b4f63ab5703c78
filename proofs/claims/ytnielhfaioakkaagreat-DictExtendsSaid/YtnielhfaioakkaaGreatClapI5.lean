/- PRINTED by mkir.py: the small code of the loaded functions. -/
import Derived.Test.YtnielhfaioakkaaGreatClapV19
namespace Go.Clap

/-- lens.Size -/
def ir94 : Fn TT := ⟨19, [.t 2],
 (.seq
  (.reg [⟨some 1, none, .box 1 (.t 0)⟩,
    ⟨some 2, none, .mv (.c (.int .i64 0))⟩])
  (.seq
   (.reg [⟨some 3, none, .mv (.c (.int .i64 1))⟩])
   (.seq
    (.seq
     (.reg [⟨some 6, none, .fa (.t 1) 13⟩,
       ⟨some 7, none, .load (.t 6) 1 false⟩,
       ⟨some 8, none, .len false (.t 7)⟩,
       ⟨some 9, none, .mv (.c (.int .i64 0))⟩])
     (.block 0
      (.loop (.keep [3, 7, 8, 9] []
       (.seq
        (.reg [⟨some 10, none, .bin .lss .num (.t 9) (.t 8)⟩])
        (.seq
         (.cond 10
          .skip
          (.exit 0))
         (.seq
          (.block 1
           (.seq
            (.reg [⟨some 11, none, .idxA (.t 7) (.t 9) 14⟩,
              ⟨some 12, none, .load (.t 11) 14 true⟩,
              ⟨some 5, none, .alloc 5 [.int .i64 0, .str ⟨#[]⟩, .str ⟨#[]⟩, .isl .str [], .int .i64 0, .int .i64 0, .int .i64 0, .int .u8 0, .int .i64 0, .int .i64 0, .str ⟨#[]⟩, .isl .fld [], .isl .two [], .isl .lens []]⟩,
              ⟨none, none, .store (.t 5) (.t 12) 14⟩])
            (.reg [⟨some 13, none, .mv (.t 3)⟩,
              ⟨some 14, none, .load (.t 5) 14 true⟩,
              ⟨some 15, none, .call 15 94 [(.t 14)]⟩,
              ⟨some 16, none, .bin .add .num (.t 13) (.t 15)⟩,
              ⟨some 3, none, .mv (.t 16)⟩])))
          (.reg [⟨some 17, none, .bin .add .num (.t 9) (.c (.int .i64 1))⟩,
            ⟨some 9, none, .mv (.t 17)⟩]))))))))
    (.seq
     (.reg [⟨some 18, none, .mv (.t 3)⟩,
       ⟨some 2, none, .mv (.t 18)⟩])
     .ret))))⟩

/-- lens.Deep -/
def ir95 : Fn TT := ⟨20, [.t 2],
 (.seq
  (.reg [⟨some 1, none, .box 1 (.t 0)⟩,
    ⟨some 2, none, .mv (.c (.int .i64 0))⟩])
  (.seq
   (.reg [⟨some 3, none, .mv (.c (.int .i64 0))⟩])
   (.seq
    (.seq
     (.reg [⟨some 6, none, .fa (.t 1) 13⟩,
       ⟨some 7, none, .load (.t 6) 1 false⟩,
       ⟨some 8, none, .len false (.t 7)⟩,
       ⟨some 9, none, .mv (.c (.int .i64 0))⟩])
     (.block 0
      (.loop (.keep [3, 7, 8, 9] []
       (.seq
        (.reg [⟨some 10, none, .bin .lss .num (.t 9) (.t 8)⟩])
        (.seq
         (.cond 10
          .skip
          (.exit 0))
         (.seq
          (.block 1
           (.seq
            (.reg [⟨some 11, none, .idxA (.t 7) (.t 9) 14⟩,
              ⟨some 12, none, .load (.t 11) 14 true⟩,
              ⟨some 5, none, .alloc 5 [.int .i64 0, .str ⟨#[]⟩, .str ⟨#[]⟩, .isl .str [], .int .i64 0, .int .i64 0, .int .i64 0, .int .u8 0, .int .i64 0, .int .i64 0, .str ⟨#[]⟩, .isl .fld [], .isl .two [], .isl .lens []]⟩,
              ⟨none, none, .store (.t 5) (.t 12) 14⟩])
            (.reg [⟨some 13, none, .mv (.t 3)⟩,
              ⟨some 14, none, .load (.t 5) 14 true⟩,
              ⟨some 15, none, .call 15 95 [(.t 14)]⟩,
              ⟨some 16, none, .mx [(.t 13), (.t 15)]⟩,
              ⟨some 3, none, .mv (.t 16)⟩])))
          (.reg [⟨some 17, none, .bin .add .num (.t 9) (.c (.int .i64 1))⟩,
            ⟨some 9, none, .mv (.t 17)⟩]))))))))
    (.seq
     (.reg [⟨some 18, none, .mv (.t 3)⟩,
       ⟨some 19, none, .bin .add .num (.t 18) (.c (.int .i64 1))⟩,
       ⟨some 2, none, .mv (.t 19)⟩])
     .ret))))⟩

/-- lens.Check -/
def ir70 : Fn TT := ⟨13, [.t 2],
 (.seq
  (.reg [⟨some 1, none, .box 1 (.t 0)⟩,
    ⟨some 2, none, .mv (.c (.int .i64 0))⟩])
  (.seq
   (.seq
    (.reg [⟨some 3, none, .load (.t 1) 14 true⟩,
      ⟨some 4, none, .call 4 94 [(.t 3)]⟩,
      ⟨some 5, none, .bin .gtr .num (.t 4) (.c (.int .i64 120))⟩,
      ⟨some 6, none, .mv (.t 5)⟩,
      ⟨some 7, (some (6, false)), .load (.t 1) 14 true⟩,
      ⟨some 8, (some (6, false)), .call 8 95 [(.t 7)]⟩,
      ⟨some 9, (some (6, false)), .bin .gtr .num (.t 8) (.c (.int .i64 40))⟩,
      ⟨some 10, none, .pick (.t 6) (.c (.bool true)) (.t 9)⟩])
    (.cond 10
     (.seq
      (.reg [⟨some 2, none, .mv (.c (.int .i64 2))⟩])
      .ret)
     .skip))
   (.seq
    (.reg [⟨some 11, none, .load (.t 1) 14 true⟩,
      ⟨some 12, none, .call 12 96 [(.t 11)]⟩,
      ⟨some 2, none, .mv (.t 12)⟩])
    .ret)))⟩

/-- lens.walk -/
def ir96 : Fn TT := ⟨25, [.t 2],
 (.seq
  (.reg [⟨some 1, none, .box 1 (.t 0)⟩,
    ⟨some 2, none, .mv (.c (.int .i64 0))⟩])
  (.seq
   (.seq
    (.reg [⟨some 7, none, .load (.t 1) 14 true⟩,
      ⟨some 8, none, .call 8 116 [(.t 7)]⟩,
      ⟨some 3, none, .mv (.t 8)⟩])
    (.seq
     (.reg [⟨some 9, none, .mv (.t 3)⟩,
       ⟨some 10, none, .bin .neq .num (.t 9) (.c (.int .i64 0))⟩])
     (.cond 10
      (.seq
       (.reg [⟨some 11, none, .mv (.t 3)⟩,
         ⟨some 2, none, .mv (.t 11)⟩])
       .ret)
      .skip)))
   (.seq
    (.seq
     (.reg [⟨some 12, none, .fa (.t 1) 13⟩,
       ⟨some 13, none, .load (.t 12) 1 false⟩,
       ⟨some 14, none, .len false (.t 13)⟩,
       ⟨some 15, none, .mv (.c (.int .i64 0))⟩])
     (.block 0
      (.loop (.keep [13, 14, 15] []
       (.seq
        (.reg [⟨some 16, none, .bin .lss .num (.t 15) (.t 14)⟩])
        (.seq
         (.cond 16
          .skip
          (.exit 0))
         (.seq
          (.block 1
           (.seq
            (.reg [⟨some 17, none, .idxA (.t 13) (.t 15) 14⟩,
              ⟨some 18, none, .load (.t 17) 14 true⟩,
              ⟨some 5, none, .alloc 5 [.int .i64 0, .str ⟨#[]⟩, .str ⟨#[]⟩, .isl .str [], .int .i64 0, .int .i64 0, .int .i64 0, .int .u8 0, .int .i64 0, .int .i64 0, .str ⟨#[]⟩, .isl .fld [], .isl .two [], .isl .lens []]⟩,
              ⟨none, none, .store (.t 5) (.t 18) 14⟩])
            (.seq
             (.reg [⟨some 19, none, .load (.t 5) 14 true⟩,
               ⟨some 20, none, .call 20 96 [(.t 19)]⟩,
               ⟨some 6, none, .mv (.t 20)⟩])
             (.seq
              (.reg [⟨some 21, none, .mv (.t 6)⟩,
                ⟨some 22, none, .bin .neq .num (.t 21) (.c (.int .i64 0))⟩])
              (.cond 22
               (.seq
                (.reg [⟨some 23, none, .mv (.t 6)⟩,
                  ⟨some 2, none, .mv (.t 23)⟩])
                .ret)
               .skip)))))
          (.reg [⟨some 24, none, .bin .add .num (.t 15) (.c (.int .i64 1))⟩,
            ⟨some 15, none, .mv (.t 24)⟩]))))))))
    (.seq
     (.reg [⟨some 2, none, .mv (.c (.int .i64 0))⟩])
     .ret))))⟩

/-- lens.Node -/
def ir116 : Fn TT := ⟨164, [.t 2],
 (.seq
  (.reg [⟨some 1, none, .box 1 (.t 0)⟩,
    ⟨some 2, none, .mv (.c (.int .i64 0))⟩])
  (.seq
   (.seq
    (.reg [⟨some 5, none, .fa (.t 1) 0⟩,
      ⟨some 6, none, .load (.t 5) 1 false⟩,
      ⟨some 7, none, .bin .lss .num (.t 6) (.c (.int .i64 0))⟩,
      ⟨some 8, none, .mv (.t 7)⟩,
      ⟨some 9, (some (8, false)), .fa (.t 1) 0⟩,
      ⟨some 10, (some (8, false)), .load (.t 9) 1 false⟩,
      ⟨some 11, (some (8, false)), .bin .geq .num (.t 10) (.c (.int .i64 19))⟩,
      ⟨some 12, none, .pick (.t 8) (.c (.bool true)) (.t 11)⟩])
    (.cond 12
     (.seq
      (.reg [⟨some 2, none, .mv (.c (.int .i64 1))⟩])
      .ret)
     .skip))
   (.seq
    (.reg [⟨some 13, none, .fa (.t 1) 0⟩,
      ⟨some 14, none, .load (.t 13) 1 false⟩,
      ⟨some 15, none, .call 15 144 [(.t 14)]⟩,
      ⟨some 3, none, .alloc 3 [.bool false, .bool false, .bool false, .bool false, .bool false, .bool false, .bool false, .bool false, .int .i64 0]⟩,
      ⟨none, none, .store (.t 3) (.t 15) 9⟩])
    (.seq
     (.seq
      (.reg [⟨some 16, none, .fa (.t 1) 1⟩,
        ⟨some 17, none, .load (.t 16) 1 false⟩,
        ⟨some 18, none, .bin .neq .str (.t 17) (.c (.str ⟨#[]⟩))⟩,
        ⟨some 19, none, .mv (.t 18)⟩,
        ⟨some 20, (some (19, true)), .fa (.t 3) 0⟩,
        ⟨some 21, (some (19, true)), .load (.t 20) 1 false⟩,
        ⟨some 22, (some (19, true)), .un .not (.t 21)⟩,
        ⟨some 23, none, .pick (.t 19) (.t 22) (.c (.bool false))⟩,
        ⟨some 24, none, .mv (.t 23)⟩,
        ⟨some 25, (some (24, false)), .fa (.t 1) 2⟩,
        ⟨some 26, (some (24, false)), .load (.t 25) 1 false⟩,
        ⟨some 27, (some (24, false)), .bin .neq .str (.t 26) (.c (.str ⟨#[]⟩))⟩,
        ⟨some 28, (some (24, false)), .mv (.t 27)⟩,
        ⟨some 29, (some (28, true)), .fa (.t 3) 1⟩,
        ⟨some 30, (some (28, true)), .load (.t 29) 1 false⟩,
        ⟨some 31, (some (28, true)), .un .not (.t 30)⟩,
        ⟨some 32, (some (24, false)), .pick (.t 28) (.t 31) (.c (.bool false))⟩,
        ⟨some 33, none, .pick (.t 24) (.c (.bool true)) (.t 32)⟩,
        ⟨some 34, none, .mv (.t 33)⟩,
        ⟨some 35, (some (34, false)), .fa (.t 1) 3⟩,
        ⟨some 36, (some (34, false)), .load (.t 35) 1 false⟩,
        ⟨some 37, (some (34, false)), .len false (.t 36)⟩,
        ⟨some 38, (some (34, false)), .bin .gtr .num (.t 37) (.c (.int .i64 0))⟩,
        ⟨some 39, (some (34, false)), .mv (.t 38)⟩,
        ⟨some 40, (some (39, true)), .fa (.t 3) 2⟩,
        ⟨some 41, (some (39, true)), .load (.t 40) 1 false⟩,
        ⟨some 42, (some (39, true)), .un .not (.t 41)⟩,
        ⟨some 43, (some (34, false)), .pick (.t 39) (.t 42) (.c (.bool false))⟩,
        ⟨some 44, none, .pick (.t 34) (.c (.bool true)) (.t 43)⟩,
        ⟨some 45, none, .mv (.t 44)⟩,
        ⟨some 46, (some (45, false)), .fa (.t 1) 4⟩,
        ⟨some 47, (some (45, false)), .load (.t 46) 1 false⟩,
        ⟨some 48, (some (45, false)), .bin .neq .num (.t 47) (.c (.int .i64 0))⟩,
        ⟨some 49, (some (45, false)), .mv (.t 48)⟩,
        ⟨some 50, (some (49, true)), .fa (.t 3) 3⟩,
        ⟨some 51, (some (49, true)), .load (.t 50) 1 false⟩,
        ⟨some 52, (some (49, true)), .un .not (.t 51)⟩,
        ⟨some 53, (some (45, false)), .pick (.t 49) (.t 52) (.c (.bool false))⟩,
        ⟨some 54, none, .pick (.t 45) (.c (.bool true)) (.t 53)⟩,
        ⟨some 55, none, .mv (.t 54)⟩,
        ⟨some 56, (some (55, false)), .fa (.t 1) 5⟩,
        ⟨some 57, (some (55, false)), .load (.t 56) 1 false⟩,
        ⟨some 58, (some (55, false)), .bin .neq .num (.t 57) (.c (.int .i64 0))⟩,
        ⟨some 59, (some (55, false)), .mv (.t 58)⟩,
        ⟨some 60, (some (59, false)), .fa (.t 1) 6⟩,
        ⟨some 61, (some (59, false)), .load (.t 60) 1 false⟩,
        ⟨some 62, (some (59, false)), .bin .neq .num (.t 61) (.c (.int .i64 0))⟩,
        ⟨some 63, (some (55, false)), .pick (.t 59) (.c (.bool true)) (.t 62)⟩,
        ⟨some 64, (some (55, false)), .mv (.t 63)⟩,
        ⟨some 65, (some (64, true)), .fa (.t 3) 4⟩,
        ⟨some 66, (some (64, true)), .load (.t 65) 1 false⟩,
        ⟨some 67, (some (64, true)), .un .not (.t 66)⟩,
        ⟨some 68, (some (55, false)), .pick (.t 64) (.t 67) (.c (.bool false))⟩,
        ⟨some 69, none, .pick (.t 55) (.c (.bool true)) (.t 68)⟩,
        ⟨some 70, none, .mv (.t 69)⟩,
        ⟨some 71, (some (70, false)), .fa (.t 1) 7⟩,
        ⟨some 72, (some (70, false)), .load (.t 71) 1 false⟩,
        ⟨some 73, (some (70, false)), .bin .neq .num (.t 72) (.c (.int .u8 0))⟩,
        ⟨some 74, (some (70, false)), .mv (.t 73)⟩,
        ⟨some 75, (some (74, true)), .fa (.t 3) 5⟩,
        ⟨some 76, (some (74, true)), .load (.t 75) 1 false⟩,
        ⟨some 77, (some (74, true)), .un .not (.t 76)⟩,
        ⟨some 78, (some (70, false)), .pick (.t 74) (.t 77) (.c (.bool false))⟩,
        ⟨some 79, none, .pick (.t 70) (.c (.bool true)) (.t 78)⟩,
        ⟨some 80, none, .mv (.t 79)⟩,
        ⟨some 81, (some (80, false)), .fa (.t 1) 12⟩,
        ⟨some 82, (some (80, false)), .load (.t 81) 1 false⟩,
        ⟨some 83, (some (80, false)), .len false (.t 82)⟩,
        ⟨some 84, (some (80, false)), .bin .gtr .num (.t 83) (.c (.int .i64 0))⟩,
        ⟨some 85, (some (80, false)), .mv (.t 84)⟩,
        ⟨some 86, (some (85, true)), .fa (.t 3) 7⟩,
        ⟨some 87, (some (85, true)), .load (.t 86) 1 false⟩,
        ⟨some 88, (some (85, true)), .un .not (.t 87)⟩,
        ⟨some 89, (some (80, false)), .pick (.t 85) (.t 88) (.c (.bool false))⟩,
        ⟨some 90, none, .pick (.t 80) (.c (.bool true)) (.t 89)⟩,
        ⟨some 91, none, .mv (.t 90)⟩,
        ⟨some 92, (some (91, false)), .fa (.t 3) 6⟩,
        ⟨some 93, (some (91, false)), .load (.t 92) 1 false⟩,
        ⟨some 94, (some (91, false)), .un .not (.t 93)⟩,
        ⟨some 95, (some (91, false)), .mv (.t 94)⟩,
        ⟨some 96, (some (95, true)), .fa (.t 1) 8⟩,
        ⟨some 97, (some (95, true)), .load (.t 96) 4 true⟩,
        ⟨some 98, (some (95, true)), .build [.int .i64 0, .int .i64 0, .str ⟨#[]⟩, .isl .fld []] []⟩,
        ⟨some 99, (some (95, true)), .call 99 11 [(.t 97), (.t 98)]⟩,
        ⟨some 100, (some (95, true)), .un .not (.t 99)⟩,
        ⟨some 101, (some (91, false)), .pick (.t 95) (.t 100) (.c (.bool false))⟩,
        ⟨some 102, none, .pick (.t 91) (.c (.bool true)) (.t 101)⟩])
      (.cond 102
       (.seq
        (.reg [⟨some 2, none, .mv (.c (.int .i64 3))⟩])
        .ret)
       .skip))
     (.seq
      (.seq
       (.reg [⟨some 103, none, .fa (.t 3) 8⟩,
         ⟨some 104, none, .load (.t 103) 1 false⟩,
         ⟨some 105, none, .bin .geq .num (.t 104) (.c (.int .i64 0))⟩,
         ⟨some 106, none, .mv (.t 105)⟩,
         ⟨some 107, (some (106, true)), .fa (.t 1) 13⟩,
         ⟨some 108, (some (106, true)), .load (.t 107) 1 false⟩,
         ⟨some 109, (some (106, true)), .len false (.t 108)⟩,
         ⟨some 110, (some (106, true)), .fa (.t 3) 8⟩,
         ⟨some 111, (some (106, true)), .load (.t 110) 1 false⟩,
         ⟨some 112, (some (106, true)), .bin .neq .num (.t 109) (.t 111)⟩,
         ⟨some 113, none, .pick (.t 106) (.t 112) (.c (.bool false))⟩,
         ⟨some 114, none, .mv (.t 113)⟩,
         ⟨some 115, (some (114, false)), .fa (.t 3) 8⟩,
         ⟨some 116, (some (114, false)), .load (.t 115) 1 false⟩,
         ⟨some 117, (some (114, false)), .bin .lss .num (.t 116) (.c (.int .i64 0))⟩,
         ⟨some 118, (some (114, false)), .mv (.t 117)⟩,
         ⟨some 119, (some (118, true)), .fa (.t 1) 13⟩,
         ⟨some 120, (some (118, true)), .load (.t 119) 1 false⟩,
         ⟨some 121, (some (118, true)), .len false (.t 120)⟩,
         ⟨some 122, (some (118, true)), .bin .eql .num (.t 121) (.c (.int .i64 0))⟩,
         ⟨some 123, (some (114, false)), .pick (.t 118) (.t 122) (.c (.bool false))⟩,
         ⟨some 124, none, .pick (.t 114) (.c (.bool true)) (.t 123)⟩])
       (.cond 124
        (.seq
         (.reg [⟨some 2, none, .mv (.c (.int .i64 3))⟩])
         .ret)
        .skip))
      (.seq
       (.seq
        (.reg [⟨some 125, none, .fa (.t 3) 0⟩,
          ⟨some 126, none, .load (.t 125) 1 false⟩,
          ⟨some 127, none, .mv (.t 126)⟩,
          ⟨some 128, (some (127, true)), .fa (.t 1) 1⟩,
          ⟨some 129, (some (127, true)), .load (.t 128) 1 false⟩,
          ⟨some 130, (some (127, true)), .call 130 132 [(.t 129)]⟩,
          ⟨some 131, (some (127, true)), .un .not (.t 130)⟩,
          ⟨some 132, none, .pick (.t 127) (.t 131) (.c (.bool false))⟩,
          ⟨some 133, none, .mv (.t 132)⟩,
          ⟨some 134, (some (133, true)), .fa (.t 1) 0⟩,
          ⟨some 135, (some (133, true)), .load (.t 134) 1 false⟩,
          ⟨some 136, (some (133, true)), .bin .eql .num (.t 135) (.c (.int .i64 13))⟩,
          ⟨some 137, (some (133, true)), .mv (.t 136)⟩,
          ⟨some 138, (some (137, true)), .fa (.t 1) 1⟩,
          ⟨some 139, (some (137, true)), .load (.t 138) 1 false⟩,
          ⟨some 140, (some (137, true)), .bin .eql .str (.t 139) (.c (.str ⟨#[]⟩))⟩,
          ⟨some 141, (some (133, true)), .pick (.t 137) (.t 140) (.c (.bool false))⟩,
          ⟨some 142, (some (133, true)), .un .not (.t 141)⟩,
          ⟨some 143, none, .pick (.t 133) (.t 142) (.c (.bool false))⟩,
          ⟨some 144, none, .mv (.t 143)⟩,
          ⟨some 145, (some (144, false)), .fa (.t 3) 1⟩,
          ⟨some 146, (some (144, false)), .load (.t 145) 1 false⟩,
          ⟨some 147, (some (144, false)), .mv (.t 146)⟩,
          ⟨some 148, (some (147, true)), .fa (.t 1) 2⟩,
          ⟨some 149, (some (147, true)), .load (.t 148) 1 false⟩,
          ⟨some 150, (some (147, true)), .call 150 132 [(.t 149)]⟩,
          ⟨some 151, (some (147, true)), .un .not (.t 150)⟩,
          ⟨some 152, (some (144, false)), .pick (.t 147) (.t 151) (.c (.bool false))⟩,
          ⟨some 153, none, .pick (.t 144) (.c (.bool true)) (.t 152)⟩])
        (.cond 153
         (.seq
          (.reg [⟨some 2, none, .mv (.c (.int .i64 15))⟩])
          .ret)
         .skip))
       (.seq
        (.seq
         (.reg [⟨some 154, none, .fa (.t 3) 6⟩,
           ⟨some 155, none, .load (.t 154) 1 false⟩])
         (.cond 155
          (.seq
           (.reg [⟨some 156, none, .fa (.t 1) 8⟩,
             ⟨some 157, none, .load (.t 156) 4 true⟩,
             ⟨some 158, none, .call 158 51 [(.t 157)]⟩,
             ⟨some 4, none, .mv (.t 158)⟩])
           (.seq
            (.reg [⟨some 159, none, .mv (.t 4)⟩,
              ⟨some 160, none, .bin .neq .num (.t 159) (.c (.int .i64 0))⟩])
            (.cond 160
             (.seq
              (.reg [⟨some 161, none, .mv (.t 4)⟩,
                ⟨some 2, none, .mv (.t 161)⟩])
              .ret)
             .skip)))
          .skip))
        (.seq
         (.reg [⟨some 162, none, .load (.t 1) 14 true⟩,
           ⟨some 163, none, .call 163 145 [(.t 162)]⟩,
           ⟨some 2, none, .mv (.t 163)⟩])
         .ret))))))))⟩

/-- lens.table -/
def ir144 : Fn TT := ⟨51, [.cell 2 9 true],
 (.seq
  (.reg [⟨some 2, none, .alloc 2 [.bool false, .bool false, .bool false, .bool false, .bool false, .bool false, .bool false, .bool false, .int .i64 0]⟩])
  (.seq
   (.seq
    (.reg [⟨some 3, none, .mv (.t 0)⟩])
    (.block 0
     (.seq
      (.reg [⟨some 5, none, .bin .eql .num (.t 3) (.c (.int .i64 1))⟩,
        ⟨some 4, none, .mv (.t 5)⟩])
      (.cond 4
       (.seq
        (.reg [⟨some 6, none, .build [.bool false, .bool false, .bool false, .bool false, .bool false, .bool false, .bool false, .bool false, .int .i64 0] [((8, 1), (.c (.int .i64 (-1))))]⟩,
          ⟨none, none, .store (.t 2) (.t 6) 9⟩])
        .ret)
       (.seq
        (.reg [⟨some 8, none, .bin .eql .num (.t 3) (.c (.int .i64 2))⟩,
          ⟨some 7, none, .mv (.t 8)⟩])
        (.cond 7
         (.seq
          (.reg [⟨some 9, none, .build [.bool false, .bool false, .bool false, .bool false, .bool false, .bool false, .bool false, .bool false, .int .i64 0] [((0, 1), (.c (.bool true))), ((8, 1), (.c (.int .i64 1)))]⟩,
            ⟨none, none, .store (.t 2) (.t 9) 9⟩])
          .ret)
         (.seq
          (.reg [⟨some 11, none, .bin .eql .num (.t 3) (.c (.int .i64 3))⟩,
            ⟨some 10, none, .mv (.t 11)⟩])
          (.cond 10
           (.seq
            (.reg [⟨some 12, none, .build [.bool false, .bool false, .bool false, .bool false, .bool false, .bool false, .bool false, .bool false, .int .i64 0] [((0, 1), (.c (.bool true))), ((1, 1), (.c (.bool true)))]⟩,
              ⟨none, none, .store (.t 2) (.t 12) 9⟩])
            .ret)
           (.seq
            (.seq
             (.reg [⟨some 14, none, .bin .eql .num (.t 3) (.c (.int .i64 4))⟩,
               ⟨some 13, none, .mv (.t 14)⟩])
             (.cond 13
              .skip
              (.seq
               (.reg [⟨some 15, none, .bin .eql .num (.t 3) (.c (.int .i64 5))⟩,
                 ⟨some 13, none, .mv (.t 15)⟩])
               (.cond 13
                .skip
                (.reg [⟨some 16, none, .bin .eql .num (.t 3) (.c (.int .i64 15))⟩,
                  ⟨some 13, none, .mv (.t 16)⟩])))))
            (.cond 13
             (.seq
              (.reg [⟨some 17, none, .build [.bool false, .bool false, .bool false, .bool false, .bool false, .bool false, .bool false, .bool false, .int .i64 0] [((0, 1), (.c (.bool true))), ((6, 1), (.c (.bool true)))]⟩,
                ⟨none, none, .store (.t 2) (.t 17) 9⟩])
              .ret)
             (.seq
              (.reg [⟨some 19, none, .bin .eql .num (.t 3) (.c (.int .i64 6))⟩,
                ⟨some 18, none, .mv (.t 19)⟩])
              (.cond 18
               (.seq
                (.reg [⟨some 20, none, .build [.bool false, .bool false, .bool false, .bool false, .bool false, .bool false, .bool false, .bool false, .int .i64 0] [((2, 1), (.c (.bool true))), ((1, 1), (.c (.bool true)))]⟩,
                  ⟨none, none, .store (.t 2) (.t 20) 9⟩])
                .ret)
               (.seq
                (.seq
                 (.reg [⟨some 22, none, .bin .eql .num (.t 3) (.c (.int .i64 7))⟩,
                   ⟨some 21, none, .mv (.t 22)⟩])
                 (.cond 21
                  .skip
                  (.seq
                   (.reg [⟨some 23, none, .bin .eql .num (.t 3) (.c (.int .i64 16))⟩,
                     ⟨some 21, none, .mv (.t 23)⟩])
                   (.cond 21
                    .skip
                    (.reg [⟨some 24, none, .bin .eql .num (.t 3) (.c (.int .i64 17))⟩,
                      ⟨some 21, none, .mv (.t 24)⟩])))))
                (.cond 21
                 (.seq
                  (.reg [⟨some 25, none, .build [.bool false, .bool false, .bool false, .bool false, .bool false, .bool false, .bool false, .bool false, .int .i64 0] [((0, 1), (.c (.bool true)))]⟩,
                    ⟨none, none, .store (.t 2) (.t 25) 9⟩])
                  .ret)
                 (.seq
                  (.reg [⟨some 27, none, .bin .eql .num (.t 3) (.c (.int .i64 8))⟩,
                    ⟨some 26, none, .mv (.t 27)⟩])
                  (.cond 26
                   (.seq
                    (.reg [⟨some 28, none, .build [.bool false, .bool false, .bool false, .bool false, .bool false, .bool false, .bool false, .bool false, .int .i64 0] [((0, 1), (.c (.bool true))), ((3, 1), (.c (.bool true)))]⟩,
                      ⟨none, none, .store (.t 2) (.t 28) 9⟩])
                    .ret)
                   (.seq
                    (.reg [⟨some 30, none, .bin .eql .num (.t 3) (.c (.int .i64 9))⟩,
                      ⟨some 29, none, .mv (.t 30)⟩])
                    (.cond 29
                     (.seq
                      (.reg [⟨some 31, none, .build [.bool false, .bool false, .bool false, .bool false, .bool false, .bool false, .bool false, .bool false, .int .i64 0] [((0, 1), (.c (.bool true))), ((1, 1), (.c (.bool true))), ((2, 1), (.c (.bool true))), ((5, 1), (.c (.bool true)))]⟩,
                        ⟨none, none, .store (.t 2) (.t 31) 9⟩])
                      .ret)
                     (.seq
                      (.reg [⟨some 33, none, .bin .eql .num (.t 3) (.c (.int .i64 10))⟩,
                        ⟨some 32, none, .mv (.t 33)⟩])
                      (.cond 32
                       (.seq
                        (.reg [⟨some 34, none, .build [.bool false, .bool false, .bool false, .bool false, .bool false, .bool false, .bool false, .bool false, .int .i64 0] [((0, 1), (.c (.bool true))), ((1, 1), (.c (.bool true))), ((5, 1), (.c (.bool true)))]⟩,
                          ⟨none, none, .store (.t 2) (.t 34) 9⟩])
                        .ret)
                       (.seq
                        (.reg [⟨some 36, none, .bin .eql .num (.t 3) (.c (.int .i64 11))⟩,
                          ⟨some 35, none, .mv (.t 36)⟩])
                        (.cond 35
                         (.seq
                          (.reg [⟨some 37, none, .build [.bool false, .bool false, .bool false, .bool false, .bool false, .bool false, .bool false, .bool false, .int .i64 0] [((7, 1), (.c (.bool true)))]⟩,
                            ⟨none, none, .store (.t 2) (.t 37) 9⟩])
                          .ret)
                         (.seq
                          (.reg [⟨some 39, none, .bin .eql .num (.t 3) (.c (.int .i64 12))⟩,
                            ⟨some 38, none, .mv (.t 39)⟩])
                          (.cond 38
                           (.seq
                            (.reg [⟨some 40, none, .build [.bool false, .bool false, .bool false, .bool false, .bool false, .bool false, .bool false, .bool false, .int .i64 0] [((4, 1), (.c (.bool true)))]⟩,
                              ⟨none, none, .store (.t 2) (.t 40) 9⟩])
                            .ret)
                           (.seq
                            (.reg [⟨some 42, none, .bin .eql .num (.t 3) (.c (.int .i64 13))⟩,
                              ⟨some 41, none, .mv (.t 42)⟩])
                            (.cond 41
                             (.seq
                              (.reg [⟨some 43, none, .build [.bool false, .bool false, .bool false, .bool false, .bool false, .bool false, .bool false, .bool false, .int .i64 0] [((0, 1), (.c (.bool true))), ((8, 1), (.c (.int .i64 1)))]⟩,
                                ⟨none, none, .store (.t 2) (.t 43) 9⟩])
                              .ret)
                             (.seq
                              (.reg [⟨some 45, none, .bin .eql .num (.t 3) (.c (.int .i64 14))⟩,
                                ⟨some 44, none, .mv (.t 45)⟩])
                              (.cond 44
                               (.seq
                                (.reg [⟨some 46, none, .build [.bool false, .bool false, .bool false, .bool false, .bool false, .bool false, .bool false, .bool false, .int .i64 0] [((2, 1), (.c (.bool true))), ((8, 1), (.c (.int .i64 (-1))))]⟩,
                                  ⟨none, none, .store (.t 2) (.t 46) 9⟩])
                                .ret)
                               (.seq
                                (.reg [⟨some 48, none, .bin .eql .num (.t 3) (.c (.int .i64 18))⟩,
                                  ⟨some 47, none, .mv (.t 48)⟩])
                                (.cond 47
                                 (.seq
                                  (.reg [⟨some 49, none, .build [.bool false, .bool false, .bool false, .bool false, .bool false, .bool false, .bool false, .bool false, .int .i64 0] [((6, 1), (.c (.bool true)))]⟩,
                                    ⟨none, none, .store (.t 2) (.t 49) 9⟩])
                                  .ret)
                                 .skip))))))))))))))))))))))))))))))
   (.seq
    (.reg [⟨some 50, none, .build [.bool false, .bool false, .bool false, .bool false, .bool false, .bool false, .bool false, .bool false, .int .i64 0] []⟩,
      ⟨none, none, .store (.t 2) (.t 50) 9⟩])
    .ret)))⟩

/-- lens.special -/
def ir145 : Fn TT := ⟨86, [.t 2],
 (.seq
  (.reg [⟨some 1, none, .box 1 (.t 0)⟩,
    ⟨some 2, none, .mv (.c (.int .i64 0))⟩])
  (.seq
   (.seq
    (.reg [⟨some 6, none, .fa (.t 1) 0⟩,
      ⟨some 7, none, .load (.t 6) 1 false⟩])
    (.block 0
     (.seq
      (.reg [⟨some 9, none, .bin .eql .num (.t 7) (.c (.int .i64 5))⟩,
        ⟨some 8, none, .mv (.t 9)⟩])
      (.cond 8
       (.seq
        (.reg [⟨some 10, none, .fa (.t 1) 8⟩,
          ⟨some 11, none, .fa (.t 10) 0⟩,
          ⟨some 12, none, .load (.t 11) 1 false⟩,
          ⟨some 13, none, .bin .neq .num (.t 12) (.c (.int .i64 0))⟩,
          ⟨some 14, none, .mv (.t 13)⟩,
          ⟨some 15, (some (14, true)), .fa (.t 1) 8⟩,
          ⟨some 16, (some (14, true)), .fa (.t 15) 0⟩,
          ⟨some 17, (some (14, true)), .load (.t 16) 1 false⟩,
          ⟨some 18, (some (14, true)), .call 18 158 [(.t 17)]⟩,
          ⟨some 19, (some (14, true)), .un .not (.t 18)⟩,
          ⟨some 20, none, .pick (.t 14) (.t 19) (.c (.bool false))⟩])
        (.cond 20
         (.seq
          (.reg [⟨some 2, none, .mv (.c (.int .i64 8))⟩])
          .ret)
         .skip))
       (.seq
        (.reg [⟨some 22, none, .bin .eql .num (.t 7) (.c (.int .i64 15))⟩,
          ⟨some 21, none, .mv (.t 22)⟩])
        (.cond 21
         (.seq
          (.reg [⟨some 23, none, .fa (.t 1) 8⟩,
            ⟨some 24, none, .fa (.t 23) 0⟩,
            ⟨some 25, none, .load (.t 24) 1 false⟩,
            ⟨some 26, none, .call 26 158 [(.t 25)]⟩,
            ⟨some 27, none, .un .not (.t 26)⟩])
          (.cond 27
           (.seq
            (.reg [⟨some 2, none, .mv (.c (.int .i64 8))⟩])
            .ret)
           .skip))
         (.seq
          (.reg [⟨some 29, none, .bin .eql .num (.t 7) (.c (.int .i64 6))⟩,
            ⟨some 28, none, .mv (.t 29)⟩])
          (.cond 28
           (.seq
            (.reg [⟨some 30, none, .fa (.t 1) 3⟩,
              ⟨some 31, none, .load (.t 30) 1 false⟩,
              ⟨some 32, none, .call 32 159 [(.t 31)]⟩,
              ⟨some 2, none, .mv (.t 32)⟩])
            .ret)
           (.seq
            (.reg [⟨some 34, none, .bin .eql .num (.t 7) (.c (.int .i64 14))⟩,
              ⟨some 33, none, .mv (.t 34)⟩])
            (.cond 33
             (.seq
              (.seq
               (.reg [⟨some 35, none, .fa (.t 1) 3⟩,
                 ⟨some 36, none, .load (.t 35) 1 false⟩,
                 ⟨some 37, none, .len false (.t 36)⟩,
                 ⟨some 38, none, .fa (.t 1) 13⟩,
                 ⟨some 39, none, .load (.t 38) 1 false⟩,
                 ⟨some 40, none, .len false (.t 39)⟩,
                 ⟨some 41, none, .bin .neq .num (.t 37) (.t 40)⟩])
               (.cond 41
                (.seq
                 (.reg [⟨some 2, none, .mv (.c (.int .i64 3))⟩])
                 .ret)
                .skip))
              (.seq
               (.reg [⟨some 42, none, .fa (.t 1) 3⟩,
                 ⟨some 43, none, .load (.t 42) 1 false⟩,
                 ⟨some 44, none, .call 44 159 [(.t 43)]⟩,
                 ⟨some 2, none, .mv (.t 44)⟩])
               .ret))
             (.seq
              (.reg [⟨some 46, none, .bin .eql .num (.t 7) (.c (.int .i64 9))⟩,
                ⟨some 45, none, .mv (.t 46)⟩])
              (.cond 45
               (.seq
                (.seq
                 (.reg [⟨some 47, none, .fa (.t 1) 3⟩,
                   ⟨some 48, none, .load (.t 47) 1 false⟩,
                   ⟨some 49, none, .len false (.t 48)⟩,
                   ⟨some 50, none, .bin .neq .num (.t 49) (.c (.int .i64 2))⟩])
                 (.cond 50
                  (.seq
                   (.reg [⟨some 2, none, .mv (.c (.int .i64 3))⟩])
                   .ret)
                  .skip))
                (.seq
                 (.reg [⟨some 51, none, .fa (.t 1) 3⟩,
                   ⟨some 52, none, .load (.t 51) 1 false⟩,
                   ⟨some 53, none, .len false (.t 52)⟩,
                   ⟨some 54, none, .mv (.c (.int .i64 0))⟩])
                 (.block 1
                  (.loop (.keep [52, 53, 54] []
                   (.seq
                    (.reg [⟨some 55, none, .bin .lss .num (.t 54) (.t 53)⟩])
                    (.seq
                     (.cond 55
                      .skip
                      (.exit 1))
                     (.seq
                      (.block 2
                       (.seq
                        (.reg [⟨some 56, none, .idxA (.t 52) (.t 54) 1⟩,
                          ⟨some 57, none, .load (.t 56) 1 false⟩,
                          ⟨some 4, none, .mv (.t 57)⟩])
                        (.seq
                         (.reg [⟨some 58, none, .mv (.t 4)⟩,
                           ⟨some 59, none, .call 59 160 [(.t 58)]⟩,
                           ⟨some 5, none, .mv (.t 59)⟩])
                         (.seq
                          (.reg [⟨some 60, none, .mv (.t 5)⟩,
                            ⟨some 61, none, .bin .neq .num (.t 60) (.c (.int .i64 0))⟩])
                          (.cond 61
                           (.seq
                            (.reg [⟨some 62, none, .mv (.t 5)⟩,
                              ⟨some 2, none, .mv (.t 62)⟩])
                            .ret)
                           .skip)))))
                      (.reg [⟨some 63, none, .bin .add .num (.t 54) (.c (.int .i64 1))⟩,
                        ⟨some 54, none, .mv (.t 63)⟩])))))))))
               (.seq
                (.reg [⟨some 65, none, .bin .eql .num (.t 7) (.c (.int .i64 11))⟩,
                  ⟨some 64, none, .mv (.t 65)⟩])
                (.cond 64
                 (.seq
                  (.reg [⟨some 66, none, .fa (.t 1) 12⟩,
                    ⟨some 67, none, .load (.t 66) 1 false⟩,
                    ⟨some 68, none, .call 68 161 [(.t 67)]⟩,
                    ⟨some 2, none, .mv (.t 68)⟩])
                  .ret)
                 (.seq
                  (.reg [⟨some 70, none, .bin .eql .num (.t 7) (.c (.int .i64 12))⟩,
                    ⟨some 69, none, .mv (.t 70)⟩])
                  (.cond 69
                   (.seq
                    (.reg [⟨some 71, none, .fa (.t 1) 5⟩,
                      ⟨some 72, none, .load (.t 71) 1 false⟩,
                      ⟨some 73, none, .bin .lss .num (.t 72) (.c (.int .i64 0))⟩,
                      ⟨some 74, none, .mv (.t 73)⟩,
                      ⟨some 75, (some (74, false)), .fa (.t 1) 6⟩,
                      ⟨some 76, (some (74, false)), .load (.t 75) 1 false⟩,
                      ⟨some 77, (some (74, false)), .fa (.t 1) 5⟩,
                      ⟨some 78, (some (74, false)), .load (.t 77) 1 false⟩,
                      ⟨some 79, (some (74, false)), .bin .lss .num (.t 76) (.t 78)⟩,
                      ⟨some 80, none, .pick (.t 74) (.c (.bool true)) (.t 79)⟩,
                      ⟨some 81, none, .mv (.t 80)⟩,
                      ⟨some 82, (some (81, false)), .fa (.t 1) 6⟩,
                      ⟨some 83, (some (81, false)), .load (.t 82) 1 false⟩,
                      ⟨some 84, (some (81, false)), .bin .gtr .num (.t 83) (.c (.int .i64 999999999))⟩,
                      ⟨some 85, none, .pick (.t 81) (.c (.bool true)) (.t 84)⟩])
                    (.cond 85
                     (.seq
                      (.reg [⟨some 2, none, .mv (.c (.int .i64 11))⟩])
                      .ret)
                     .skip))
                   .skip))))))))))))))))
   (.seq
    (.reg [⟨some 2, none, .mv (.c (.int .i64 0))⟩])
    .ret)))⟩

/-- lens.Plain -/
def ir158 : Fn TT := ⟨17, [.t 2],
 (.seq
  (.reg [⟨some 2, none, .mv (.c (.bool false))⟩])
  (.seq
   (.reg [⟨some 3, none, .mv (.t 0)⟩,
     ⟨some 4, none, .bin .eql .num (.t 3) (.c (.int .i64 1))⟩,
     ⟨some 5, none, .mv (.t 4)⟩,
     ⟨some 6, (some (5, false)), .mv (.t 0)⟩,
     ⟨some 7, (some (5, false)), .bin .eql .num (.t 6) (.c (.int .i64 2))⟩,
     ⟨some 8, none, .pick (.t 5) (.c (.bool true)) (.t 7)⟩,
     ⟨some 9, none, .mv (.t 8)⟩,
     ⟨some 10, (some (9, false)), .mv (.t 0)⟩,
     ⟨some 11, (some (9, false)), .bin .eql .num (.t 10) (.c (.int .i64 4))⟩,
     ⟨some 12, none, .pick (.t 9) (.c (.bool true)) (.t 11)⟩,
     ⟨some 13, none, .mv (.t 12)⟩,
     ⟨some 14, (some (13, false)), .mv (.t 0)⟩,
     ⟨some 15, (some (13, false)), .bin .eql .num (.t 14) (.c (.int .i64 5))⟩,
     ⟨some 16, none, .pick (.t 13) (.c (.bool true)) (.t 15)⟩,
     ⟨some 2, none, .mv (.t 16)⟩])
   .ret))⟩

/-- lens.pairs -/
def ir161 : Fn TT := ⟨69, [.t 2],
 (.seq
  (.reg [⟨some 2, none, .mv (.c (.int .i64 0))⟩])
  (.seq
   (.seq
    (.reg [⟨some 9, none, .mv (.t 0)⟩,
      ⟨some 10, none, .len false (.t 9)⟩,
      ⟨some 11, none, .bin .eql .num (.t 10) (.c (.int .i64 0))⟩])
    (.cond 11
     (.seq
      (.reg [⟨some 2, none, .mv (.c (.int .i64 3))⟩])
      .ret)
     .skip))
   (.seq
    (.seq
     (.reg [⟨some 12, none, .mv (.t 0)⟩,
       ⟨some 13, none, .len false (.t 12)⟩,
       ⟨some 14, none, .bin .gtr .num (.t 13) (.c (.int .i64 40))⟩])
     (.cond 14
      (.seq
       (.reg [⟨some 2, none, .mv (.c (.int .i64 2))⟩])
       .ret)
      .skip))
    (.seq
     (.seq
      (.reg [⟨some 15, none, .mv (.t 0)⟩,
        ⟨some 16, none, .len false (.t 15)⟩,
        ⟨some 17, none, .mv (.c (.int .i64 0))⟩])
      (.block 0
       (.loop (.keep [0, 15, 16, 17] []
        (.seq
         (.reg [⟨some 18, none, .bin .lss .num (.t 17) (.t 16)⟩])
         (.seq
          (.cond 18
           .skip
           (.exit 0))
          (.seq
           (.block 1
            (.seq
             (.reg [⟨some 19, none, .mv (.t 17)⟩,
               ⟨some 20, none, .idxA (.t 15) (.t 17) 8⟩,
               ⟨some 21, none, .load (.t 20) 8 true⟩,
               ⟨some 4, none, .alloc 4 [.int .i64 0, .int .i64 0, .str ⟨#[]⟩, .isl .fld [], .int .i64 0, .int .i64 0, .str ⟨#[]⟩, .isl .fld []]⟩,
               ⟨some 3, none, .mv (.t 19)⟩,
               ⟨none, none, .store (.t 4) (.t 21) 8⟩])
             (.seq
              (.reg [⟨some 22, none, .mv (.c (.int .i64 0))⟩])
              (.block 2
               (.loop (.keep [0, 3, 4, 15, 16, 17, 22] [.s 4]
                (.seq
                 (.reg [⟨some 23, none, .bin .lss .num (.t 22) (.c (.int .i64 2))⟩])
                 (.seq
                  (.cond 23
                   .skip
                   (.exit 2))
                  (.seq
                   (.block 3
                    (.seq
                     (.reg [⟨some 24, none, .mv (.t 22)⟩,
                       ⟨some 5, none, .mv (.t 24)⟩])
                     (.seq
                      (.seq
                       (.reg [⟨some 25, none, .mv (.t 5)⟩,
                         ⟨some 26, none, .idxArr (.t 4) (.t 25) 4 2⟩,
                         ⟨some 27, none, .load (.t 26) 4 true⟩,
                         ⟨some 28, none, .call 28 51 [(.t 27)]⟩,
                         ⟨some 6, none, .mv (.t 28)⟩])
                       (.seq
                        (.reg [⟨some 29, none, .mv (.t 6)⟩,
                          ⟨some 30, none, .bin .neq .num (.t 29) (.c (.int .i64 0))⟩])
                        (.cond 30
                         (.seq
                          (.reg [⟨some 31, none, .mv (.t 6)⟩,
                            ⟨some 2, none, .mv (.t 31)⟩])
                          .ret)
                         .skip)))
                      (.seq
                       (.seq
                        (.drw [] (ol [0, 1, 2, 3, 4, 5, 6, 7, 8, 9, 10, 11, 12, 13, 14, 15, 16, 17, 18]) [] [0, 1, 2, 3, 5, 6, 7, 8, 9, 10, 11, 12, 13, 14, 15, 16, 17, 18] [⟨some 32, none, .mv (.t 5)⟩,
                          ⟨some 33, none, .idxArr (.t 4) (.t 32) 4 2⟩,
                          ⟨some 34, none, .fa (.t 33) 0⟩,
                          ⟨some 35, none, .load (.t 34) 1 false⟩,
                          ⟨some 36, none, .call 36 158 [(.t 35)]⟩,
                          ⟨some 37, none, .un .not (.t 36)⟩,
                          ⟨some 38, none, .mv (.t 37)⟩,
                          ⟨some 39, (some (38, false)), .mv (.t 5)⟩,
                          ⟨some 40, (some (38, false)), .idxArr (.t 4) (.t 39) 4 2⟩,
                          ⟨some 41, (some (38, false)), .fa (.t 40) 0⟩,
                          ⟨some 42, (some (38, false)), .load (.t 41) 1 false⟩,
                          ⟨some 43, (some (38, false)), .mv (.t 0)⟩,
                          ⟨some 44, (some (38, false)), .mv (.t 5)⟩,
                          ⟨some 45, (some (38, false)), .idxA (.t 43) (.c (.int .i64 0)) 8⟩,
                          ⟨some 46, (some (38, false)), .idxArr (.t 45) (.t 44) 4 2⟩,
                          ⟨some 47, (some (38, false)), .fa (.t 46) 0⟩,
                          ⟨some 48, (some (38, false)), .load (.t 47) 1 false⟩,
                          ⟨some 49, (some (38, false)), .bin .neq .num (.t 42) (.t 48)⟩,
                          ⟨some 50, none, .pick (.t 38) (.c (.bool true)) (.t 49)⟩])
                        (.cond 50
                         (.seq
                          (.reg [⟨some 2, none, .mv (.c (.int .i64 8))⟩])
                          .ret)
                         .skip))
                       (.seq
                        (.reg [⟨some 51, none, .mv (.t 0)⟩,
                          ⟨some 52, none, .mv (.t 3)⟩,
                          ⟨some 53, none, .slc 8 (.t 51) none (some (.t 52))⟩,
                          ⟨some 54, none, .len false (.t 53)⟩,
                          ⟨some 55, none, .mv (.c (.int .i64 0))⟩])
                        (.block 4
                         (.loop (.keep [0, 3, 4, 5, 15, 16, 17, 22, 53, 54, 55] [.s 4]
                          (.seq
                           (.reg [⟨some 56, none, .bin .lss .num (.t 55) (.t 54)⟩])
                           (.seq
                            (.cond 56
                             .skip
                             (.exit 4))
                            (.seq
                             (.block 5
                              (.seq
                               (.reg [⟨some 57, none, .idxA (.t 53) (.t 55) 8⟩,
                                 ⟨some 58, none, .load (.t 57) 8 true⟩,
                                 ⟨some 8, none, .alloc 8 [.int .i64 0, .int .i64 0, .str ⟨#[]⟩, .isl .fld [], .int .i64 0, .int .i64 0, .str ⟨#[]⟩, .isl .fld []]⟩,
                                 ⟨none, none, .store (.t 8) (.t 58) 8⟩])
                               (.seq
                                (.drw [] (ol [0, 1, 2, 3, 4, 5, 6]) [] [0, 1, 2, 3, 4, 5] [⟨some 59, none, .mv (.t 5)⟩,
                                  ⟨some 60, none, .idxArr (.t 4) (.t 59) 4 2⟩,
                                  ⟨some 61, none, .load (.t 60) 4 true⟩,
                                  ⟨some 62, none, .mv (.t 5)⟩,
                                  ⟨some 63, none, .idxArr (.t 8) (.t 62) 4 2⟩,
                                  ⟨some 64, none, .load (.t 63) 4 true⟩,
                                  ⟨some 65, none, .call 65 11 [(.t 61), (.t 64)]⟩])
                                (.cond 65
                                 (.seq
                                  (.reg [⟨some 2, none, .mv (.c (.int .i64 5))⟩])
                                  .ret)
                                 .skip))))
                             (.reg [⟨some 66, none, .bin .add .num (.t 55) (.c (.int .i64 1))⟩,
                               ⟨some 55, none, .mv (.t 66)⟩]))))))))))))
                   (.reg [⟨some 67, none, .bin .add .num (.t 22) (.c (.int .i64 1))⟩,
                     ⟨some 22, none, .mv (.t 67)⟩]))))))))))
           (.reg [⟨some 68, none, .bin .add .num (.t 17) (.c (.int .i64 1))⟩,
             ⟨some 17, none, .mv (.t 68)⟩]))))))))
     (.seq
      (.reg [⟨some 2, none, .mv (.c (.int .i64 0))⟩])
      .ret)))))⟩

/-- dict.Check -/
def ir46 : Fn TT := ⟨6, [.t 2],
 (.seq
  (.reg [⟨some 2, none, .mv (.c (.int .i64 0))⟩])
  (.seq
   (.reg [⟨some 3, none, .mv (.t 0)⟩,
     ⟨some 4, none, .build [.int .i64 0, .str ⟨#[]⟩, .str ⟨#[]⟩, .isl .str [], .int .i64 0, .int .i64 0, .int .i64 0, .int .u8 0, .int .i64 0, .int .i64 0, .str ⟨#[]⟩, .isl .fld [], .isl .two [], .isl .lens []] [((0, 1), (.c (.int .i64 11))), ((12, 1), (.t 3))]⟩,
     ⟨some 5, none, .call 5 70 [(.t 4)]⟩,
     ⟨some 2, none, .mv (.t 5)⟩])
   .ret))⟩

/-- slices.IndexFunc[dict.Pairs,[2]api.Value] -/
def ir71 : Fn TT := ⟨19, [.t 4],
 (.seq
  (.reg [⟨some 4, none, .mv (.c (.int .i64 0))⟩])
  (.seq
   (.seq
    (.reg [⟨some 6, none, .mv (.t 0)⟩,
      ⟨some 7, none, .len false (.t 6)⟩,
      ⟨some 8, none, .mv (.c (.int .i64 0))⟩])
    (.block 0
     (.loop (.keep [0, 1, 7, 8] [.x 0, .x 1]
      (.seq
       (.reg [⟨some 9, none, .bin .lss .num (.t 8) (.t 7)⟩])
       (.seq
        (.cond 9
         .skip
         (.exit 0))
        (.seq
         (.block 1
          (.seq
           (.reg [⟨some 10, none, .mv (.t 8)⟩,
             ⟨some 5, none, .mv (.t 10)⟩])
           (.seq
            (.reg [⟨some 11, none, .mv (.t 1)⟩,
              ⟨some 12, none, .mv (.t 0)⟩,
              ⟨some 13, none, .mv (.t 5)⟩,
              ⟨some 14, none, .idxA (.t 12) (.t 13) 8⟩,
              ⟨some 15, none, .load (.t 14) 8 true⟩,
              ⟨some 16, none, .callv 16 (.t 11) [(.t 15)]⟩])
            (.cond 16
             (.seq
              (.reg [⟨some 17, none, .mv (.t 5)⟩,
                ⟨some 4, none, .mv (.t 17)⟩])
              .ret)
             .skip))))
         (.reg [⟨some 18, none, .bin .add .num (.t 8) (.c (.int .i64 1))⟩,
           ⟨some 8, none, .mv (.t 18)⟩]))))))))
   (.seq
    (.reg [⟨some 4, none, .mv (.c (.int .i64 (-1)))⟩])
    .ret)))⟩

/-- dict.find$1 -/
def ir72 : Fn TT := ⟨10, [.t 4],
 (.seq
  (.reg [⟨some 3, none, .box 3 (.t 0)⟩,
    ⟨some 4, none, .mv (.c (.bool false))⟩])
  (.seq
   (.drw [] (ol [0, 1, 2, 3, 4, 5]) [] [0, 1, 2, 3, 5] [⟨some 5, none, .load (.t 1) 1 false⟩,
     ⟨some 6, none, .idxArr (.t 3) (.t 5) 4 2⟩,
     ⟨some 7, none, .load (.t 6) 4 true⟩,
     ⟨some 8, none, .load (.t 2) 4 true⟩,
     ⟨some 9, none, .call 9 11 [(.t 7), (.t 8)]⟩,
     ⟨some 4, none, .mv (.t 9)⟩])
   .ret))⟩

/-- dict.find -/
def ir47 : Fn TT := ⟨10, [.t 6],
 (.seq
  (.reg [⟨some 4, none, .box 4 (.t 1)⟩,
    ⟨some 5, none, .box 5 (.t 2)⟩,
    ⟨some 6, none, .mv (.c (.int .i64 0))⟩])
  (.seq
   (.reg [⟨some 7, none, .mv (.t 0)⟩,
     ⟨some 8, none, .mkf 72 [(.t 4), (.t 5)]⟩,
     ⟨some 9, none, .call 9 71 [(.t 7), (.t 8)]⟩,
     ⟨some 6, none, .mv (.t 9)⟩])
   .ret))⟩

/-- dict.sorted -/
def ir48 : Fn TT := ⟨26, [.t 2],
 (.seq
  (.reg [⟨some 2, none, .mv (.c (.nils))⟩])
  (.seq
   (.reg [⟨some 3, none, .mv (.c (.nils))⟩])
   (.seq
    (.seq
     (.reg [⟨some 6, none, .mv (.t 0)⟩,
       ⟨some 7, none, .len false (.t 6)⟩,
       ⟨some 8, none, .mv (.c (.int .i64 0))⟩])
     (.block 0
      (.own 3 .two (.sub (.s 3) 3) (.loop (.keep [3, 6, 7, 8] [(.sub (.s 3) 3)]
       (.seq
        (.reg [⟨some 9, none, .bin .lss .num (.t 8) (.t 7)⟩])
        (.seq
         (.cond 9
          .skip
          (.exit 0))
         (.seq
          (.block 1
           (.seq
            (.reg [⟨some 10, none, .idxA (.t 6) (.t 8) 8⟩,
              ⟨some 11, none, .load (.t 10) 8 true⟩,
              ⟨some 5, none, .alloc 5 [.int .i64 0, .int .i64 0, .str ⟨#[]⟩, .isl .fld [], .int .i64 0, .int .i64 0, .str ⟨#[]⟩, .isl .fld []]⟩,
              ⟨none, none, .store (.t 5) (.t 11) 8⟩])
            (.drw [(.sub (.s 3) 3)] (ol [0, 1, 2, 4, 5, 3, 6, 7, 8, 9, 10]) [] [0, 1, 2, 4, 5, 7, 10] [⟨some 12, none, .mv (.t 3)⟩,
              ⟨some 13, none, .idxArr (.t 5) (.c (.int .i64 0)) 4 2⟩,
              ⟨some 14, none, .load (.t 13) 4 true⟩,
              ⟨some 15, none, .call 15 57 [(.t 14)]⟩,
              ⟨some 16, none, .idxArr (.t 5) (.c (.int .i64 1)) 4 2⟩,
              ⟨some 17, none, .load (.t 16) 4 true⟩,
              ⟨some 18, none, .call 18 57 [(.t 17)]⟩,
              ⟨some 19, none, .build [.int .i64 0, .int .i64 0, .str ⟨#[]⟩, .isl .fld [], .int .i64 0, .int .i64 0, .str ⟨#[]⟩, .isl .fld []] [((0, 4), (.t 15)), ((4, 4), (.t 18))]⟩,
              ⟨some 20, none, .bsl .two [(.t 19)]⟩,
              ⟨some 21, none, .app 21 .two 68719476736 (.t 12) (.t 20)⟩,
              ⟨some 3, none, .mv (.t 21)⟩])))
          (.keep [3, 6, 7, 8] [.s 21] (.own 3 .two (.sub (.s 3) 3) (.reg [⟨some 22, none, .bin .add .num (.t 8) (.c (.int .i64 1))⟩,
            ⟨some 8, none, .mv (.t 22)⟩])))))))))))
    (.seq
     (.reg [⟨some 23, none, .mv (.t 3)⟩,
       ⟨some 24, none, .call 24 73 [(.t 23), (.c (.fn 74 []))]⟩])
     (.seq
      (.fz 3 0 (.reg [⟨some 25, none, .mv (.t 3)⟩,
        ⟨some 2, none, .mv (.t 25)⟩]))
      .ret)))))⟩

/-- slices.SortFunc[dict.Pairs,[2]api.Value] -/
def ir73 : Fn TT := ⟨14, [],
 (.seq
  (.reg [⟨some 5, none, .mv (.t 0)⟩,
    ⟨some 6, none, .len false (.t 5)⟩,
    ⟨some 4, none, .mv (.t 6)⟩])
  (.reg [⟨some 7, none, .mv (.t 0)⟩,
    ⟨some 8, none, .mv (.t 4)⟩,
    ⟨some 9, none, .mv (.t 4)⟩,
    ⟨some 10, none, .conv .u64 (.t 9)⟩,
    ⟨some 11, none, .call 11 98 [(.t 10)]⟩,
    ⟨some 12, none, .mv (.t 1)⟩,
    ⟨some 13, none, .call 13 97 [(.t 7), (.c (.int .i64 0)), (.t 8), (.t 11), (.t 12)]⟩]))⟩

/-- dict.sorted$1 -/
def ir74 : Fn TT := ⟨10, [.t 4],
 (.seq
  (.reg [⟨some 2, none, .box 2 (.t 0)⟩,
    ⟨some 3, none, .box 3 (.t 1)⟩,
    ⟨some 4, none, .mv (.c (.int .i64 0))⟩])
  (.seq
   (.reg [⟨some 5, none, .idxArr (.t 2) (.c (.int .i64 0)) 4 2⟩,
     ⟨some 6, none, .load (.t 5) 4 true⟩,
     ⟨some 7, none, .idxArr (.t 3) (.c (.int .i64 0)) 4 2⟩,
     ⟨some 8, none, .load (.t 7) 4 true⟩,
     ⟨some 9, none, .call 9 34 [(.t 6), (.t 8)]⟩,
     ⟨some 4, none, .mv (.t 9)⟩])
   .ret))⟩

/-- slices.pdqsortCmpFunc[[2]api.Value] -/
def ir97 : Fn TT := ⟨148, [],
 (.seq
  (.reg [⟨some 10, none, .mv (.c (.bool true))⟩])
  (.seq
   (.reg [⟨some 11, none, .mv (.c (.bool true))⟩])
   (.block 0
    (.loop (.keep [0, 1, 2, 3, 4, 10, 11] [.x 0]
     (.block 1
      (.seq
       (.reg [⟨some 21, none, .mv (.t 2)⟩,
         ⟨some 22, none, .mv (.t 1)⟩,
         ⟨some 23, none, .bin .sub .num (.t 21) (.t 22)⟩,
         ⟨some 12, none, .mv (.t 23)⟩])
       (.seq
        (.seq
         (.reg [⟨some 24, none, .mv (.t 12)⟩,
           ⟨some 25, none, .bin .leq .num (.t 24) (.c (.int .i64 12))⟩])
         (.cond 25
          (.seq
           (.reg [⟨some 26, none, .mv (.t 0)⟩,
             ⟨some 27, none, .mv (.t 1)⟩,
             ⟨some 28, none, .mv (.t 2)⟩,
             ⟨some 29, none, .mv (.t 4)⟩,
             ⟨some 30, none, .call 30 117 [(.t 26), (.t 27), (.t 28), (.t 29)]⟩])
           .ret)
          .skip))
        (.seq
         (.seq
          (.reg [⟨some 31, none, .mv (.t 3)⟩,
            ⟨some 32, none, .bin .eql .num (.t 31) (.c (.int .i64 0))⟩])
          (.cond 32
           (.seq
            (.reg [⟨some 33, none, .mv (.t 0)⟩,
              ⟨some 34, none, .mv (.t 1)⟩,
              ⟨some 35, none, .mv (.t 2)⟩,
              ⟨some 36, none, .mv (.t 4)⟩,
              ⟨some 37, none, .call 37 118 [(.t 33), (.t 34), (.t 35), (.t 36)]⟩])
            .ret)
           .skip))
         (.seq
          (.seq
           (.reg [⟨some 38, none, .mv (.t 10)⟩,
             ⟨some 39, none, .un .not (.t 38)⟩])
           (.cond 39
            (.seq
             (.reg [⟨some 40, none, .mv (.t 0)⟩,
               ⟨some 41, none, .mv (.t 1)⟩,
               ⟨some 42, none, .mv (.t 2)⟩,
               ⟨some 43, none, .mv (.t 4)⟩,
               ⟨some 44, none, .call 44 119 [(.t 40), (.t 41), (.t 42), (.t 43)]⟩])
             (.reg [⟨some 45, none, .mv (.t 3)⟩,
               ⟨some 46, none, .bin .sub .num (.t 45) (.c (.int .i64 1))⟩,
               ⟨some 3, none, .mv (.t 46)⟩]))
            .skip))
          (.seq
           (.reg [⟨some 48, none, .mv (.t 0)⟩,
             ⟨some 49, none, .mv (.t 1)⟩,
             ⟨some 50, none, .mv (.t 2)⟩,
             ⟨some 51, none, .mv (.t 4)⟩,
             ⟨some 52, none, .call 52 120 [(.t 48), (.t 49), (.t 50), (.t 51)]⟩,
             ⟨some 47, none, .mv (.t 52)⟩,
             ⟨some 53, none, .ext (.t 47) 0⟩,
             ⟨some 54, none, .ext (.t 47) 1⟩,
             ⟨some 13, none, .mv (.t 53)⟩,
             ⟨some 14, none, .mv (.t 54)⟩])
           (.seq
            (.seq
             (.reg [⟨some 55, none, .mv (.t 14)⟩,
               ⟨some 56, none, .bin .eql .num (.t 55) (.c (.int .i64 2))⟩])
             (.cond 56
              (.seq
               (.reg [⟨some 57, none, .mv (.t 0)⟩,
                 ⟨some 58, none, .mv (.t 1)⟩,
                 ⟨some 59, none, .mv (.t 2)⟩,
                 ⟨some 60, none, .mv (.t 4)⟩,
                 ⟨some 61, none, .call 61 121 [(.t 57), (.t 58), (.t 59), (.t 60)]⟩])
               (.seq
                (.reg [⟨some 62, none, .mv (.t 2)⟩,
                  ⟨some 63, none, .bin .sub .num (.t 62) (.c (.int .i64 1))⟩,
                  ⟨some 64, none, .mv (.t 13)⟩,
                  ⟨some 65, none, .mv (.t 1)⟩,
                  ⟨some 66, none, .bin .sub .num (.t 64) (.t 65)⟩,
                  ⟨some 67, none, .bin .sub .num (.t 63) (.t 66)⟩,
                  ⟨some 13, none, .mv (.t 67)⟩])
                (.reg [⟨some 14, none, .mv (.c (.int .i64 1))⟩])))
              .skip))
            (.seq
             (.seq
              (.reg [⟨some 68, none, .mv (.t 10)⟩,
                ⟨some 69, none, .mv (.t 68)⟩,
                ⟨some 70, (some (69, true)), .mv (.t 11)⟩,
                ⟨some 71, none, .pick (.t 69) (.t 70) (.c (.bool false))⟩,
                ⟨some 72, none, .mv (.t 71)⟩,
                ⟨some 73, (some (72, true)), .mv (.t 14)⟩,
                ⟨some 74, (some (72, true)), .bin .eql .num (.t 73) (.c (.int .i64 1))⟩,
                ⟨some 75, none, .pick (.t 72) (.t 74) (.c (.bool false))⟩])
              (.cond 75
               (.seq
                (.reg [⟨some 76, none, .mv (.t 0)⟩,
                  ⟨some 77, none, .mv (.t 1)⟩,
                  ⟨some 78, none, .mv (.t 2)⟩,
                  ⟨some 79, none, .mv (.t 4)⟩,
                  ⟨some 80, none, .call 80 122 [(.t 76), (.t 77), (.t 78), (.t 79)]⟩])
                (.cond 80
                 .ret
                 .skip))
               .skip))
             (.seq
              (.seq
               (.drw [] (ol [0, 1, 2, 3, 4, 5, 6, 7, 8, 9, 10, 11, 12, 13, 14, 15, 16]) [] [0, 1, 2, 3, 4, 5, 6, 7, 8, 9, 10, 11, 12, 14, 15, 16] [⟨some 81, none, .mv (.t 1)⟩,
                 ⟨some 82, none, .bin .gtr .num (.t 81) (.c (.int .i64 0))⟩,
                 ⟨some 83, none, .mv (.t 82)⟩,
                 ⟨some 84, (some (83, true)), .mv (.t 4)⟩,
                 ⟨some 85, (some (83, true)), .mv (.t 0)⟩,
                 ⟨some 86, (some (83, true)), .mv (.t 1)⟩,
                 ⟨some 87, (some (83, true)), .bin .sub .num (.t 86) (.c (.int .i64 1))⟩,
                 ⟨some 88, (some (83, true)), .idxA (.t 85) (.t 87) 8⟩,
                 ⟨some 89, (some (83, true)), .load (.t 88) 8 true⟩,
                 ⟨some 90, (some (83, true)), .mv (.t 0)⟩,
                 ⟨some 91, (some (83, true)), .mv (.t 13)⟩,
                 ⟨some 92, (some (83, true)), .idxA (.t 90) (.t 91) 8⟩,
                 ⟨some 93, (some (83, true)), .load (.t 92) 8 true⟩,
                 ⟨some 94, (some (83, true)), .callv 94 (.t 84) [(.t 89), (.t 93)]⟩,
                 ⟨some 95, (some (83, true)), .bin .lss .num (.t 94) (.c (.int .i64 0))⟩,
                 ⟨some 96, (some (83, true)), .un .not (.t 95)⟩,
                 ⟨some 97, none, .pick (.t 83) (.t 96) (.c (.bool false))⟩])
               (.cond 97
                (.seq
                 (.reg [⟨some 98, none, .mv (.t 0)⟩,
                   ⟨some 99, none, .mv (.t 1)⟩,
                   ⟨some 100, none, .mv (.t 2)⟩,
                   ⟨some 101, none, .mv (.t 13)⟩,
                   ⟨some 102, none, .mv (.t 4)⟩,
                   ⟨some 103, none, .call 103 123 [(.t 98), (.t 99), (.t 100), (.t 101), (.t 102)]⟩,
                   ⟨some 15, none, .mv (.t 103)⟩])
                 (.seq
                  (.reg [⟨some 104, none, .mv (.t 15)⟩,
                    ⟨some 1, none, .mv (.t 104)⟩])
                  (.exit 1)))
                .skip))
              (.seq
               (.reg [⟨some 106, none, .mv (.t 0)⟩,
                 ⟨some 107, none, .mv (.t 1)⟩,
                 ⟨some 108, none, .mv (.t 2)⟩,
                 ⟨some 109, none, .mv (.t 13)⟩,
                 ⟨some 110, none, .mv (.t 4)⟩,
                 ⟨some 111, none, .call 111 124 [(.t 106), (.t 107), (.t 108), (.t 109), (.t 110)]⟩,
                 ⟨some 105, none, .mv (.t 111)⟩,
                 ⟨some 112, none, .ext (.t 105) 0⟩,
                 ⟨some 113, none, .ext (.t 105) 1⟩,
                 ⟨some 16, none, .mv (.t 112)⟩,
                 ⟨some 17, none, .mv (.t 113)⟩])
               (.seq
                (.reg [⟨some 114, none, .mv (.t 17)⟩,
                  ⟨some 11, none, .mv (.t 114)⟩])
                (.seq
                 (.reg [⟨some 115, none, .mv (.t 16)⟩,
                   ⟨some 116, none, .mv (.t 1)⟩,
                   ⟨some 117, none, .bin .sub .num (.t 115) (.t 116)⟩,
                   ⟨some 118, none, .mv (.t 2)⟩,
                   ⟨some 119, none, .mv (.t 16)⟩,
                   ⟨some 120, none, .bin .sub .num (.t 118) (.t 119)⟩,
                   ⟨some 18, none, .mv (.t 117)⟩,
                   ⟨some 19, none, .mv (.t 120)⟩])
                 (.seq
                  (.reg [⟨some 121, none, .mv (.t 12)⟩,
                    ⟨some 122, none, .bin .quo .num (.t 121) (.c (.int .i64 8))⟩,
                    ⟨some 20, none, .mv (.t 122)⟩])
                  (.seq
                   (.reg [⟨some 123, none, .mv (.t 18)⟩,
                     ⟨some 124, none, .mv (.t 19)⟩,
                     ⟨some 125, none, .bin .lss .num (.t 123) (.t 124)⟩])
                   (.cond 125
                    (.seq
                     (.reg [⟨some 126, none, .mv (.t 18)⟩,
                       ⟨some 127, none, .mv (.t 20)⟩,
                       ⟨some 128, none, .bin .geq .num (.t 126) (.t 127)⟩,
                       ⟨some 10, none, .mv (.t 128)⟩])
                     (.seq
                      (.reg [⟨some 129, none, .mv (.t 0)⟩,
                        ⟨some 130, none, .mv (.t 1)⟩,
                        ⟨some 131, none, .mv (.t 16)⟩,
                        ⟨some 132, none, .mv (.t 3)⟩,
                        ⟨some 133, none, .mv (.t 4)⟩,
                        ⟨some 134, none, .call 134 97 [(.t 129), (.t 130), (.t 131), (.t 132), (.t 133)]⟩])
                      (.reg [⟨some 135, none, .mv (.t 16)⟩,
                        ⟨some 136, none, .bin .add .num (.t 135) (.c (.int .i64 1))⟩,
                        ⟨some 1, none, .mv (.t 136)⟩])))
                    (.seq
                     (.reg [⟨some 137, none, .mv (.t 19)⟩,
                       ⟨some 138, none, .mv (.t 20)⟩,
                       ⟨some 139, none, .bin .geq .num (.t 137) (.t 138)⟩,
                       ⟨some 10, none, .mv (.t 139)⟩])
                     (.seq
                      (.reg [⟨some 140, none, .mv (.t 0)⟩,
                        ⟨some 141, none, .mv (.t 16)⟩,
                        ⟨some 142, none, .bin .add .num (.t 141) (.c (.int .i64 1))⟩,
                        ⟨some 143, none, .mv (.t 2)⟩,
                        ⟨some 144, none, .mv (.t 3)⟩,
                        ⟨some 145, none, .mv (.t 4)⟩,
                        ⟨some 146, none, .call 146 97 [(.t 140), (.t 142), (.t 143), (.t 144), (.t 145)]⟩])
                      (.reg [⟨some 147, none, .mv (.t 16)⟩,
                        ⟨some 2, none, .mv (.t 147)⟩])))))))))))))))))))))))⟩

/-- slices.insertionSortCmpFunc[[2]api.Value] -/
def ir117 : Fn TT := ⟨53, [],
 (.seq
  (.reg [⟨some 10, none, .mv (.t 1)⟩,
    ⟨some 11, none, .bin .add .num (.t 10) (.c (.int .i64 1))⟩,
    ⟨some 8, none, .mv (.t 11)⟩])
  (.block 0
   (.loop (.keep [0, 1, 2, 3, 8] [.x 0]
    (.seq
     (.seq
      (.reg [⟨some 12, none, .mv (.t 8)⟩,
        ⟨some 13, none, .mv (.t 2)⟩,
        ⟨some 14, none, .bin .lss .num (.t 12) (.t 13)⟩])
      (.cond 14
       .skip
       (.exit 0)))
     (.seq
      (.block 1
       (.seq
        (.reg [⟨some 17, none, .mv (.t 8)⟩,
          ⟨some 9, none, .mv (.t 17)⟩])
        (.block 2
         (.loop (.keep [0, 1, 2, 3, 8, 9] [.x 0]
          (.seq
           (.seq
            (.drw [] (ol [0, 1, 2, 3, 4, 5, 6, 7, 8, 9, 10, 11, 12, 13, 14, 15, 16]) [] [0, 1, 2, 3, 4, 5, 6, 7, 8, 9, 10, 11, 12, 13, 15, 16] [⟨some 18, none, .mv (.t 9)⟩,
              ⟨some 19, none, .mv (.t 1)⟩,
              ⟨some 20, none, .bin .gtr .num (.t 18) (.t 19)⟩,
              ⟨some 21, none, .mv (.t 20)⟩,
              ⟨some 22, (some (21, true)), .mv (.t 3)⟩,
              ⟨some 23, (some (21, true)), .mv (.t 0)⟩,
              ⟨some 24, (some (21, true)), .mv (.t 9)⟩,
              ⟨some 25, (some (21, true)), .idxA (.t 23) (.t 24) 8⟩,
              ⟨some 26, (some (21, true)), .load (.t 25) 8 true⟩,
              ⟨some 27, (some (21, true)), .mv (.t 0)⟩,
              ⟨some 28, (some (21, true)), .mv (.t 9)⟩,
              ⟨some 29, (some (21, true)), .bin .sub .num (.t 28) (.c (.int .i64 1))⟩,
              ⟨some 30, (some (21, true)), .idxA (.t 27) (.t 29) 8⟩,
              ⟨some 31, (some (21, true)), .load (.t 30) 8 true⟩,
              ⟨some 32, (some (21, true)), .callv 32 (.t 22) [(.t 26), (.t 31)]⟩,
              ⟨some 33, (some (21, true)), .bin .lss .num (.t 32) (.c (.int .i64 0))⟩,
              ⟨some 34, none, .pick (.t 21) (.t 33) (.c (.bool false))⟩])
            (.cond 34
             .skip
             (.exit 2)))
           (.seq
            (.block 3
             (.drw [] (ol [0, 1, 2, 3, 4, 5, 6, 7, 8, 9, 10, 11, 12, 13, 14, 15, 16, 17]) [15, 17] [0, 1, 2, 3, 4, 5, 6, 7, 8, 9, 10, 11, 12, 13, 14, 16] [⟨some 37, none, .mv (.t 0)⟩,
               ⟨some 38, none, .mv (.t 9)⟩,
               ⟨some 39, none, .mv (.t 0)⟩,
               ⟨some 40, none, .mv (.t 9)⟩,
               ⟨some 41, none, .bin .sub .num (.t 40) (.c (.int .i64 1))⟩,
               ⟨some 42, none, .mv (.t 0)⟩,
               ⟨some 43, none, .mv (.t 9)⟩,
               ⟨some 44, none, .bin .sub .num (.t 43) (.c (.int .i64 1))⟩,
               ⟨some 45, none, .idxA (.t 42) (.t 44) 8⟩,
               ⟨some 46, none, .load (.t 45) 8 true⟩,
               ⟨some 47, none, .mv (.t 0)⟩,
               ⟨some 48, none, .mv (.t 9)⟩,
               ⟨some 49, none, .idxA (.t 47) (.t 48) 8⟩,
               ⟨some 50, none, .load (.t 49) 8 true⟩,
               ⟨some 51, none, .idxA (.t 37) (.t 38) 8⟩,
               ⟨none, none, .store (.t 51) (.t 46) 8⟩,
               ⟨some 52, none, .idxA (.t 39) (.t 41) 8⟩,
               ⟨none, none, .store (.t 52) (.t 50) 8⟩]))
            (.reg [⟨some 35, none, .mv (.t 9)⟩,
              ⟨some 36, none, .bin .sub .num (.t 35) (.c (.int .i64 1))⟩,
              ⟨some 9, none, .mv (.t 36)⟩]))))))))
      (.reg [⟨some 15, none, .mv (.t 8)⟩,
        ⟨some 16, none, .bin .add .num (.t 15) (.c (.int .i64 1))⟩,
        ⟨some 8, none, .mv (.t 16)⟩])))))))⟩

/-- math/bits.Len -/
def ir98 : Fn TT := ⟨8, [.t 2],
 (.seq
  (.reg [⟨some 2, none, .mv (.c (.int .i64 0))⟩])
  (.seq
   (.condc false
    (.seq
     (.reg [⟨some 3, none, .mv (.t 0)⟩,
       ⟨some 4, none, .conv .u32 (.t 3)⟩,
       ⟨some 5, none, .call 5 125 [(.t 4)]⟩,
       ⟨some 2, none, .mv (.t 5)⟩])
     .ret)
    .skip)
   (.seq
    (.reg [⟨some 6, none, .mv (.t 0)⟩,
      ⟨some 7, none, .call 7 126 [(.t 6)]⟩,
      ⟨some 2, none, .mv (.t 7)⟩])
    .ret)))⟩

/-- math/bits.Len64 -/
def ir126 : Fn TT := ⟨25, [.t 2],
 (.seq
  (.reg [⟨some 2, none, .mv (.c (.int .i64 0))⟩])
  (.seq
   (.seq
    (.reg [⟨some 3, none, .mv (.t 0)⟩,
      ⟨some 4, none, .bin .geq .num (.t 3) (.c (.int .u64 4294967296))⟩])
    (.cond 4
     (.seq
      (.reg [⟨some 5, none, .mv (.t 0)⟩,
        ⟨some 6, none, .bin .shr .num (.t 5) (.c (.int .u64 32))⟩,
        ⟨some 0, none, .mv (.t 6)⟩])
      (.reg [⟨some 2, none, .mv (.c (.int .i64 32))⟩]))
     .skip))
   (.seq
    (.seq
     (.reg [⟨some 7, none, .mv (.t 0)⟩,
       ⟨some 8, none, .bin .geq .num (.t 7) (.c (.int .u64 65536))⟩])
     (.cond 8
      (.seq
       (.reg [⟨some 9, none, .mv (.t 0)⟩,
         ⟨some 10, none, .bin .shr .num (.t 9) (.c (.int .u64 16))⟩,
         ⟨some 0, none, .mv (.t 10)⟩])
       (.reg [⟨some 11, none, .mv (.t 2)⟩,
         ⟨some 12, none, .bin .add .num (.t 11) (.c (.int .i64 16))⟩,
         ⟨some 2, none, .mv (.t 12)⟩]))
      .skip))
    (.seq
     (.seq
      (.reg [⟨some 13, none, .mv (.t 0)⟩,
        ⟨some 14, none, .bin .geq .num (.t 13) (.c (.int .u64 256))⟩])
      (.cond 14
       (.seq
        (.reg [⟨some 15, none, .mv (.t 0)⟩,
          ⟨some 16, none, .bin .shr .num (.t 15) (.c (.int .u64 8))⟩,
          ⟨some 0, none, .mv (.t 16)⟩])
        (.reg [⟨some 17, none, .mv (.t 2)⟩,
          ⟨some 18, none, .bin .add .num (.t 17) (.c (.int .i64 8))⟩,
          ⟨some 2, none, .mv (.t 18)⟩]))
       .skip))
     (.seq
      (.reg [⟨some 19, none, .mv (.t 2)⟩,
        ⟨some 20, none, .mv (.t 0)⟩,
        ⟨some 21, none, .conv .u8 (.t 20)⟩,
        ⟨some 22, none, .idxS (.c (.str ⟨#[0, 1, 2, 2, 3, 3, 3, 3, 4, 4, 4, 4, 4, 4, 4, 4, 5, 5, 5, 5, 5, 5, 5, 5, 5, 5, 5, 5, 5, 5, 5, 5, 6, 6, 6, 6, 6, 6, 6, 6, 6, 6, 6, 6, 6, 6, 6, 6, 6, 6, 6, 6, 6, 6, 6, 6, 6, 6, 6, 6, 6, 6, 6, 6, 7, 7, 7, 7, 7, 7, 7, 7, 7, 7, 7, 7, 7, 7, 7, 7, 7, 7, 7, 7, 7, 7, 7, 7, 7, 7, 7, 7, 7, 7, 7, 7, 7, 7, 7, 7, 7, 7, 7, 7, 7, 7, 7, 7, 7, 7, 7, 7, 7, 7, 7, 7, 7, 7, 7, 7, 7, 7, 7, 7, 7, 7, 7, 7, 8, 8, 8, 8, 8, 8, 8, 8, 8, 8, 8, 8, 8, 8, 8, 8, 8, 8, 8, 8, 8, 8, 8, 8, 8, 8, 8, 8, 8, 8, 8, 8, 8, 8, 8, 8, 8, 8, 8, 8, 8, 8, 8, 8, 8, 8, 8, 8, 8, 8, 8, 8, 8, 8, 8, 8, 8, 8, 8, 8, 8, 8, 8, 8, 8, 8, 8, 8, 8, 8, 8, 8, 8, 8, 8, 8, 8, 8, 8, 8, 8, 8, 8, 8, 8, 8, 8, 8, 8, 8, 8, 8, 8, 8, 8, 8, 8, 8, 8, 8, 8, 8, 8, 8, 8, 8, 8, 8, 8, 8, 8, 8, 8, 8, 8, 8, 8, 8, 8, 8, 8, 8, 8, 8, 8, 8, 8, 8]⟩)) (.t 21)⟩,
        ⟨some 23, none, .conv .i64 (.t 22)⟩,
        ⟨some 24, none, .bin .add .num (.t 19) (.t 23)⟩,
        ⟨some 2, none, .mv (.t 24)⟩])
      .ret)))))⟩

/-- dict.Compose -/
def ir28 : Fn TT := ⟨56, [.t 4, .t 5],
 (.seq
  (.reg [⟨some 4, none, .mv (.c (.nils))⟩,
    ⟨some 5, none, .mv (.c (.int .i64 0))⟩])
  (.seq
   (.seq
    (.reg [⟨some 13, none, .mv (.t 0)⟩,
      ⟨some 14, none, .mv (.t 1)⟩,
      ⟨some 15, none, .bsl .vpairs [(.t 13), (.t 14)]⟩,
      ⟨some 16, none, .len false (.t 15)⟩,
      ⟨some 17, none, .mv (.c (.int .i64 0))⟩])
    (.block 0
     (.loop (.keep [0, 1, 15, 16, 17] []
      (.seq
       (.reg [⟨some 18, none, .bin .lss .num (.t 17) (.t 16)⟩])
       (.seq
        (.cond 18
         .skip
         (.exit 0))
        (.seq
         (.block 1
          (.seq
           (.reg [⟨some 19, none, .idxA (.t 15) (.t 17) 1⟩,
             ⟨some 20, none, .load (.t 19) 1 false⟩,
             ⟨some 7, none, .mv (.t 20)⟩])
           (.seq
            (.reg [⟨some 21, none, .mv (.t 7)⟩,
              ⟨some 22, none, .call 22 46 [(.t 21)]⟩,
              ⟨some 8, none, .mv (.t 22)⟩])
            (.seq
             (.reg [⟨some 23, none, .mv (.t 8)⟩,
               ⟨some 24, none, .bin .neq .num (.t 23) (.c (.int .i64 0))⟩])
             (.cond 24
              (.seq
               (.reg [⟨some 25, none, .mv (.t 8)⟩,
                 ⟨some 4, none, .mv (.c (.nils))⟩,
                 ⟨some 5, none, .mv (.t 25)⟩])
               .ret)
              .skip)))))
         (.reg [⟨some 26, none, .bin .add .num (.t 17) (.c (.int .i64 1))⟩,
           ⟨some 17, none, .mv (.t 26)⟩]))))))))
   (.seq
    (.reg [⟨some 9, none, .mv (.c (.nils))⟩])
    (.seq
     (.seq
      (.reg [⟨some 27, none, .mv (.t 0)⟩,
        ⟨some 28, none, .len false (.t 27)⟩,
        ⟨some 29, none, .mv (.c (.int .i64 0))⟩])
      (.block 2
       (.own 9 .two (.sub (.s 9) 9) (.loop (.keep [1, 9, 27, 28, 29] [(.sub (.s 9) 9)]
        (.seq
         (.own 9 .two (.sub (.s 9) 10) (.reg [⟨some 30, none, .bin .lss .num (.t 29) (.t 28)⟩]))
         (.seq
          (.cond 30
           .skip
           (.exit 2))
          (.seq
           (.block 3
            (.seq
             (.reg [⟨some 31, none, .idxA (.t 27) (.t 29) 8⟩,
               ⟨some 32, none, .load (.t 31) 8 true⟩,
               ⟨some 11, none, .alloc 11 [.int .i64 0, .int .i64 0, .str ⟨#[]⟩, .isl .fld [], .int .i64 0, .int .i64 0, .str ⟨#[]⟩, .isl .fld []]⟩,
               ⟨none, none, .store (.t 11) (.t 32) 8⟩])
             (.seq
              (.reg [⟨some 33, none, .mv (.t 1)⟩,
                ⟨some 34, none, .idxArr (.t 11) (.c (.int .i64 1)) 4 2⟩,
                ⟨some 35, none, .load (.t 34) 4 true⟩,
                ⟨some 36, none, .call 36 47 [(.t 33), (.c (.int .i64 0)), (.t 35)]⟩,
                ⟨some 12, none, .mv (.t 36)⟩])
              (.seq
               (.reg [⟨some 37, none, .mv (.t 12)⟩,
                 ⟨some 38, none, .bin .geq .num (.t 37) (.c (.int .i64 0))⟩])
               (.cond 38
                (.drw [(.sub (.s 9) 10)] (ol [0, 1, 2, 3, 4, 5, 6, 7, 8, 9, 10, 11]) [] [0, 1, 2, 3, 4, 5, 6, 7, 8, 11] [⟨some 39, none, .mv (.t 9)⟩,
                  ⟨some 40, none, .idxArr (.t 11) (.c (.int .i64 0)) 4 2⟩,
                  ⟨some 41, none, .load (.t 40) 4 true⟩,
                  ⟨some 42, none, .mv (.t 1)⟩,
                  ⟨some 43, none, .mv (.t 12)⟩,
                  ⟨some 44, none, .idxA (.t 42) (.t 43) 8⟩,
                  ⟨some 45, none, .idxArr (.t 44) (.c (.int .i64 1)) 4 2⟩,
                  ⟨some 46, none, .load (.t 45) 4 true⟩,
                  ⟨some 47, none, .build [.int .i64 0, .int .i64 0, .str ⟨#[]⟩, .isl .fld [], .int .i64 0, .int .i64 0, .str ⟨#[]⟩, .isl .fld []] [((0, 4), (.t 41)), ((4, 4), (.t 46))]⟩,
                  ⟨some 48, none, .bsl .two [(.t 47)]⟩,
                  ⟨some 49, none, .app 49 .two 68719476736 (.t 39) (.t 48)⟩,
                  ⟨some 9, none, .mv (.t 49)⟩])
                .skip)))))
           (.keep [1, 9, 27, 28, 29] [(.sub (.s 9) 10), .s 49] (.own 9 .two (.sub (.s 9) 9) (.reg [⟨some 50, none, .bin .add .num (.t 29) (.c (.int .i64 1))⟩,
             ⟨some 29, none, .mv (.t 50)⟩])))))))))))
     (.seq
      (.seq
       (.reg [⟨some 51, none, .mv (.t 9)⟩,
         ⟨some 52, none, .len false (.t 51)⟩,
         ⟨some 53, none, .bin .eql .num (.t 52) (.c (.int .i64 0))⟩])
       (.cond 53
        (.seq
         (.reg [⟨some 4, none, .mv (.c (.nils))⟩,
           ⟨some 5, none, .mv (.c (.int .i64 4))⟩])
         .ret)
        .skip))
      (.seq
       (.fz 9 0 (.reg [⟨some 54, none, .mv (.t 9)⟩,
         ⟨some 55, none, .call 55 48 [(.t 54)]⟩,
         ⟨some 4, none, .mv (.t 55)⟩,
         ⟨some 5, none, .mv (.c (.int .i64 0))⟩]))
       .ret))))))⟩

/-- clapkeep3.equal -/
def ir29 : Fn TT := ⟨8, [.t 4],
 (.seq
  (.reg [⟨some 4, none, .mv (.c (.bool false))⟩])
  (.seq
   (.reg [⟨some 5, none, .mv (.t 0)⟩,
     ⟨some 6, none, .mv (.t 1)⟩,
     ⟨some 7, none, .call 7 49 [(.t 5), (.t 6), (.c (.fn 50 []))]⟩,
     ⟨some 4, none, .mv (.t 7)⟩])
   .ret))⟩

/-- slices.EqualFunc[dict.Pairs,dict.Pairs,[2]api.Value,[2]api.Value] -/
def ir49 : Fn TT := ⟨32, [.t 6],
 (.seq
  (.reg [⟨some 6, none, .mv (.c (.bool false))⟩])
  (.seq
   (.seq
    (.reg [⟨some 10, none, .mv (.t 0)⟩,
      ⟨some 11, none, .len false (.t 10)⟩,
      ⟨some 12, none, .mv (.t 1)⟩,
      ⟨some 13, none, .len false (.t 12)⟩,
      ⟨some 14, none, .bin .neq .num (.t 11) (.t 13)⟩])
    (.cond 14
     (.seq
      (.reg [⟨some 6, none, .mv (.c (.bool false))⟩])
      .ret)
     .skip))
   (.seq
    (.seq
     (.reg [⟨some 15, none, .mv (.t 0)⟩,
       ⟨some 16, none, .len false (.t 15)⟩,
       ⟨some 17, none, .mv (.c (.int .i64 0))⟩])
     (.block 0
      (.loop (.keep [1, 2, 15, 16, 17] []
       (.seq
        (.reg [⟨some 18, none, .bin .lss .num (.t 17) (.t 16)⟩])
        (.seq
         (.cond 18
          .skip
          (.exit 0))
         (.seq
          (.block 1
           (.seq
            (.reg [⟨some 19, none, .mv (.t 17)⟩,
              ⟨some 20, none, .idxA (.t 15) (.t 17) 8⟩,
              ⟨some 21, none, .load (.t 20) 8 true⟩,
              ⟨some 8, none, .alloc 8 [.int .i64 0, .int .i64 0, .str ⟨#[]⟩, .isl .fld [], .int .i64 0, .int .i64 0, .str ⟨#[]⟩, .isl .fld []]⟩,
              ⟨some 7, none, .mv (.t 19)⟩,
              ⟨none, none, .store (.t 8) (.t 21) 8⟩])
            (.seq
             (.reg [⟨some 22, none, .mv (.t 1)⟩,
               ⟨some 23, none, .mv (.t 7)⟩,
               ⟨some 24, none, .idxA (.t 22) (.t 23) 8⟩,
               ⟨some 25, none, .load (.t 24) 8 true⟩,
               ⟨some 9, none, .alloc 9 [.int .i64 0, .int .i64 0, .str ⟨#[]⟩, .isl .fld [], .int .i64 0, .int .i64 0, .str ⟨#[]⟩, .isl .fld []]⟩,
               ⟨none, none, .store (.t 9) (.t 25) 8⟩])
             (.seq
              (.reg [⟨some 26, none, .mv (.t 2)⟩,
                ⟨some 27, none, .load (.t 8) 8 true⟩,
                ⟨some 28, none, .load (.t 9) 8 true⟩,
                ⟨some 29, none, .callv 29 (.t 26) [(.t 27), (.t 28)]⟩,
                ⟨some 30, none, .un .not (.t 29)⟩])
              (.cond 30
               (.seq
                (.reg [⟨some 6, none, .mv (.c (.bool false))⟩])
                .ret)
               .skip)))))
          (.reg [⟨some 31, none, .bin .add .num (.t 17) (.c (.int .i64 1))⟩,
            ⟨some 17, none, .mv (.t 31)⟩]))))))))
    (.seq
     (.reg [⟨some 6, none, .mv (.c (.bool true))⟩])
     .ret))))⟩

/-- clapkeep3.equal$1 -/
def ir50 : Fn TT := ⟨17, [.t 4],
 (.seq
  (.reg [⟨some 2, none, .box 2 (.t 0)⟩,
    ⟨some 3, none, .box 3 (.t 1)⟩,
    ⟨some 4, none, .mv (.c (.bool false))⟩])
  (.seq
   (.reg [⟨some 5, none, .idxArr (.t 2) (.c (.int .i64 0)) 4 2⟩,
     ⟨some 6, none, .load (.t 5) 4 true⟩,
     ⟨some 7, none, .idxArr (.t 3) (.c (.int .i64 0)) 4 2⟩,
     ⟨some 8, none, .load (.t 7) 4 true⟩,
     ⟨some 9, none, .call 9 11 [(.t 6), (.t 8)]⟩,
     ⟨some 10, none, .mv (.t 9)⟩,
     ⟨some 11, (some (10, true)), .idxArr (.t 2) (.c (.int .i64 1)) 4 2⟩,
     ⟨some 12, (some (10, true)), .load (.t 11) 4 true⟩,
     ⟨some 13, (some (10, true)), .idxArr (.t 3) (.c (.int .i64 1)) 4 2⟩,
     ⟨some 14, (some (10, true)), .load (.t 13) 4 true⟩,
     ⟨some 15, (some (10, true)), .call 15 11 [(.t 12), (.t 14)]⟩,
     ⟨some 16, none, .pick (.t 10) (.t 15) (.c (.bool false))⟩,
     ⟨some 4, none, .mv (.t 16)⟩])
   .ret))⟩

/-- clapkeep3.table -/
def ir27 : Fn TT := ⟨49, [.t 4],
 (.seq
  (.reg [⟨some 4, none, .mv (.c (.nils))⟩])
  (.seq
   (.reg [⟨some 11, none, .mv (.t 0)⟩,
     ⟨some 12, none, .build [.isl .int []] [((0, 1), (.t 11))]⟩,
     ⟨some 13, none, .box 13 (.t 12)⟩,
     ⟨some 5, none, .mv (.t 13)⟩])
   (.seq
    (.reg [⟨some 6, none, .mv (.c (.nils))⟩])
    (.seq
     (.seq
      (.reg [⟨some 14, none, .mv (.t 1)⟩,
        ⟨some 15, none, .mv (.c (.int .i64 0))⟩])
      (.block 0
       (.own 6 .int (.sub (.s 6) 6) (.loop (.keep [1, 5, 6, 14, 15] [.s 13, (.sub (.s 6) 6)]
        (.seq
         (.reg [⟨some 16, none, .bin .lss .num (.t 15) (.t 14)⟩])
         (.seq
          (.cond 16
           .skip
           (.exit 0))
          (.seq
           (.block 1
            (.seq
             (.reg [⟨some 17, none, .mv (.t 15)⟩,
               ⟨some 7, none, .mv (.t 17)⟩])
             (.reg [⟨some 18, none, .mv (.t 6)⟩,
               ⟨some 19, none, .mv (.t 7)⟩,
               ⟨some 20, none, .bsl .int [(.t 19)]⟩,
               ⟨some 21, none, .app 21 .int 68719476736 (.t 18) (.t 20)⟩,
               ⟨some 6, none, .mv (.t 21)⟩])))
           (.keep [1, 5, 6, 14, 15] [.s 13, .s 21] (.own 6 .int (.sub (.s 6) 6) (.reg [⟨some 22, none, .bin .add .num (.t 15) (.c (.int .i64 1))⟩,
             ⟨some 15, none, .mv (.t 22)⟩])))))))))))
     (.seq
      (.reg [⟨some 8, none, .mv (.c (.nils))⟩])
      (.seq
       (.seq
        (.reg [⟨some 23, none, .mv (.t 1)⟩,
          ⟨some 24, none, .mv (.c (.int .i64 0))⟩])
        (.block 2
         (.own 8 .two (.sub (.s 8) 8) (.loop (.keep [5, 6, 8, 23, 24] [.s 13, (.sub (.s 6) 6), (.sub (.s 8) 8)]
          (.seq
           (.reg [⟨some 25, none, .bin .lss .num (.t 24) (.t 23)⟩])
           (.seq
            (.cond 25
             .skip
             (.exit 2))
            (.seq
             (.block 3
              (.seq
               (.reg [⟨some 26, none, .mv (.t 24)⟩,
                 ⟨some 9, none, .mv (.t 26)⟩])
               (.seq
                (.reg [⟨some 27, none, .mv (.t 5)⟩,
                  ⟨some 28, none, .mv (.t 6)⟩,
                  ⟨some 29, none, .len false (.t 28)⟩,
                  ⟨some 30, none, .call 30 15 [(.t 27), (.t 29)]⟩,
                  ⟨some 10, none, .mv (.t 30)⟩])
                (.seq
                 (.drw [(.sub (.s 8) 8)] (ol [0, 1, 3, 4, 5, 6, 2, 7, 8, 9, 10, 11]) [] [0, 1, 3, 4, 5, 6, 8, 11] [⟨some 31, none, .mv (.t 8)⟩,
                   ⟨some 32, none, .mv (.t 9)⟩,
                   ⟨some 33, none, .call 33 44 [(.t 32)]⟩,
                   ⟨some 34, none, .mv (.t 6)⟩,
                   ⟨some 35, none, .mv (.t 10)⟩,
                   ⟨some 36, none, .idxA (.t 34) (.t 35) 1⟩,
                   ⟨some 37, none, .load (.t 36) 1 false⟩,
                   ⟨some 38, none, .call 38 44 [(.t 37)]⟩,
                   ⟨some 39, none, .build [.int .i64 0, .int .i64 0, .str ⟨#[]⟩, .isl .fld [], .int .i64 0, .int .i64 0, .str ⟨#[]⟩, .isl .fld []] [((0, 4), (.t 33)), ((4, 4), (.t 38))]⟩,
                   ⟨some 40, none, .bsl .two [(.t 39)]⟩,
                   ⟨some 41, none, .app 41 .two 68719476736 (.t 31) (.t 40)⟩,
                   ⟨some 8, none, .mv (.t 41)⟩])
                 (.reg [⟨some 42, none, .mv (.t 6)⟩,
                   ⟨some 43, none, .mv (.t 10)⟩,
                   ⟨some 44, none, .mv (.t 10)⟩,
                   ⟨some 45, none, .bin .add .num (.t 44) (.c (.int .i64 1))⟩,
                   ⟨some 46, none, .call 46 45 [(.t 42), (.t 43), (.t 45)]⟩,
                   ⟨some 6, none, .mv (.t 46)⟩])))))
             (.keep [5, 6, 8, 23, 24] [.s 13, (.sub (.s 6) 6), .s 41] (.own 8 .two (.sub (.s 8) 8) (.reg [⟨some 47, none, .bin .add .num (.t 24) (.c (.int .i64 1))⟩,
               ⟨some 24, none, .mv (.t 47)⟩])))))))))))
       (.seq
        (.fz 8 0 (.reg [⟨some 48, none, .mv (.t 8)⟩,
          ⟨some 4, none, .mv (.t 48)⟩]))
        .ret)))))))⟩

/-- clapkeep3.DictThree -/
def ir7 : Fn TT := ⟨81, [.t 8],
 (.seq
  (.reg [⟨some 8, none, .mv (.c (.bool false))⟩])
  (.seq
   (.reg [⟨some 20, none, .mv (.t 3)⟩,
     ⟨some 21, none, .call 21 26 [(.t 20), (.c (.int .i64 12))]⟩,
     ⟨some 22, none, .bin .add .num (.c (.int .i64 1)) (.t 21)⟩,
     ⟨some 3, none, .mv (.t 22)⟩])
   (.seq
    (.reg [⟨some 23, none, .mv (.t 0)⟩,
      ⟨some 24, none, .mv (.t 3)⟩,
      ⟨some 25, none, .call 25 27 [(.t 23), (.t 24)]⟩,
      ⟨some 26, none, .mv (.t 1)⟩,
      ⟨some 27, none, .mv (.t 3)⟩,
      ⟨some 28, none, .call 28 27 [(.t 26), (.t 27)]⟩,
      ⟨some 29, none, .mv (.t 2)⟩,
      ⟨some 30, none, .mv (.t 3)⟩,
      ⟨some 31, none, .call 31 27 [(.t 29), (.t 30)]⟩,
      ⟨some 9, none, .mv (.t 25)⟩,
      ⟨some 10, none, .mv (.t 28)⟩,
      ⟨some 11, none, .mv (.t 31)⟩])
    (.seq
     (.reg [⟨some 33, none, .mv (.t 9)⟩,
       ⟨some 34, none, .mv (.t 10)⟩,
       ⟨some 35, none, .call 35 28 [(.t 33), (.t 34)]⟩,
       ⟨some 32, none, .mv (.t 35)⟩,
       ⟨some 36, none, .ext (.t 32) 0⟩,
       ⟨some 37, none, .ext (.t 32) 1⟩,
       ⟨some 12, none, .mv (.t 36)⟩,
       ⟨some 13, none, .mv (.t 37)⟩])
     (.seq
      (.reg [⟨some 39, none, .mv (.t 10)⟩,
        ⟨some 40, none, .mv (.t 11)⟩,
        ⟨some 41, none, .call 41 28 [(.t 39), (.t 40)]⟩,
        ⟨some 38, none, .mv (.t 41)⟩,
        ⟨some 42, none, .ext (.t 38) 0⟩,
        ⟨some 43, none, .ext (.t 38) 1⟩,
        ⟨some 14, none, .mv (.t 42)⟩,
        ⟨some 15, none, .mv (.t 43)⟩])
      (.seq
       (.reg [⟨some 45, none, .mv (.t 12)⟩,
         ⟨some 46, none, .mv (.t 11)⟩,
         ⟨some 47, none, .call 47 28 [(.t 45), (.t 46)]⟩,
         ⟨some 44, none, .mv (.t 47)⟩,
         ⟨some 48, none, .ext (.t 44) 0⟩,
         ⟨some 49, none, .ext (.t 44) 1⟩,
         ⟨some 16, none, .mv (.t 48)⟩,
         ⟨some 17, none, .mv (.t 49)⟩])
       (.seq
        (.reg [⟨some 51, none, .mv (.t 9)⟩,
          ⟨some 52, none, .mv (.t 14)⟩,
          ⟨some 53, none, .call 53 28 [(.t 51), (.t 52)]⟩,
          ⟨some 50, none, .mv (.t 53)⟩,
          ⟨some 54, none, .ext (.t 50) 0⟩,
          ⟨some 55, none, .ext (.t 50) 1⟩,
          ⟨some 18, none, .mv (.t 54)⟩,
          ⟨some 19, none, .mv (.t 55)⟩])
        (.seq
         (.reg [⟨some 56, none, .mv (.t 13)⟩,
           ⟨some 57, none, .bin .eql .num (.t 56) (.c (.int .i64 0))⟩,
           ⟨some 58, none, .mv (.t 57)⟩,
           ⟨some 59, (some (58, true)), .mv (.t 15)⟩,
           ⟨some 60, (some (58, true)), .bin .eql .num (.t 59) (.c (.int .i64 0))⟩,
           ⟨some 61, none, .pick (.t 58) (.t 60) (.c (.bool false))⟩,
           ⟨some 62, none, .mv (.t 61)⟩,
           ⟨some 63, (some (62, true)), .mv (.t 17)⟩,
           ⟨some 64, (some (62, true)), .bin .eql .num (.t 63) (.c (.int .i64 0))⟩,
           ⟨some 65, none, .pick (.t 62) (.t 64) (.c (.bool false))⟩,
           ⟨some 66, none, .mv (.t 65)⟩,
           ⟨some 67, (some (66, true)), .mv (.t 19)⟩,
           ⟨some 68, (some (66, true)), .bin .eql .num (.t 67) (.c (.int .i64 0))⟩,
           ⟨some 69, none, .pick (.t 66) (.t 68) (.c (.bool false))⟩,
           ⟨some 70, none, .mv (.t 69)⟩,
           ⟨some 71, (some (70, true)), .mv (.t 16)⟩,
           ⟨some 72, (some (70, true)), .len false (.t 71)⟩,
           ⟨some 73, (some (70, true)), .mv (.t 3)⟩,
           ⟨some 74, (some (70, true)), .bin .eql .num (.t 72) (.t 73)⟩,
           ⟨some 75, none, .pick (.t 70) (.t 74) (.c (.bool false))⟩,
           ⟨some 76, none, .mv (.t 75)⟩,
           ⟨some 77, (some (76, true)), .mv (.t 16)⟩,
           ⟨some 78, (some (76, true)), .mv (.t 18)⟩,
           ⟨some 79, (some (76, true)), .call 79 29 [(.t 77), (.t 78)]⟩,
           ⟨some 80, none, .pick (.t 76) (.t 79) (.c (.bool false))⟩,
           ⟨some 8, none, .mv (.t 80)⟩])
         .ret))))))))⟩

end Go.Clap
