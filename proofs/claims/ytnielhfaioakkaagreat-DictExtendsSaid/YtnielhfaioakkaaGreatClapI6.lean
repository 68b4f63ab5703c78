/- PRINTED by mkirz.py: the small code of the loaded functions. -/
import Derived.Test.YtnielhfaioakkaaGreatClapV25
namespace Go.Clap

/-- dict.Invert -/
def ir309 : Fn TT := ⟨30, [.t 2, .t 3],
 (.seq
  (.reg [⟨some 2, none, .mv (.c (.nils))⟩,
    ⟨some 3, none, .mv (.c (.int .i64 0))⟩])
  (.seq
   (.seq
    (.reg [⟨some 8, none, .mv (.t 0)⟩,
      ⟨some 9, none, .call 9 46 [(.t 8)]⟩,
      ⟨some 4, none, .mv (.t 9)⟩])
    (.seq
     (.reg [⟨some 10, none, .mv (.t 4)⟩,
       ⟨some 11, none, .bin .neq .num (.t 10) (.c (.int .i64 0))⟩])
     (.cond 11
      (.seq
       (.reg [⟨some 12, none, .mv (.t 4)⟩,
         ⟨some 2, none, .mv (.c (.nils))⟩,
         ⟨some 3, none, .mv (.t 12)⟩])
       .ret)
      .skip)))
   (.seq
    (.reg [⟨some 5, none, .mv (.c (.nils))⟩])
    (.seq
     (.seq
      (.reg [⟨some 13, none, .mv (.t 0)⟩,
        ⟨some 14, none, .len false (.t 13)⟩,
        ⟨some 15, none, .mv (.c (.int .i64 0))⟩])
      (.block 0
       (.own 5 .two (.sub (.s 5) 5) (.loop (.keep [5, 13, 14, 15] [(.sub (.s 5) 5)]
        (.seq
         (.reg [⟨some 16, none, .bin .lss .num (.t 15) (.t 14)⟩])
         (.seq
          (.cond 16
           .skip
           (.exit 0))
          (.seq
           (.block 1
            (.seq
             (.reg [⟨some 17, none, .idxA (.t 13) (.t 15) 8⟩,
               ⟨some 18, none, .load (.t 17) 8 true⟩,
               ⟨some 7, none, .alloc 7 [.int .i64 0, .int .i64 0, .str ⟨#[]⟩, .isl .fld [], .int .i64 0, .int .i64 0, .str ⟨#[]⟩, .isl .fld []]⟩,
               ⟨none, none, .store (.t 7) (.t 18) 8⟩])
             (.reg [⟨some 19, none, .mv (.t 5)⟩,
               ⟨some 20, none, .idxArr (.t 7) (.c (.int .i64 1)) 4 2⟩,
               ⟨some 21, none, .load (.t 20) 4 true⟩,
               ⟨some 22, none, .idxArr (.t 7) (.c (.int .i64 0)) 4 2⟩,
               ⟨some 23, none, .load (.t 22) 4 true⟩,
               ⟨some 24, none, .build [.int .i64 0, .int .i64 0, .str ⟨#[]⟩, .isl .fld [], .int .i64 0, .int .i64 0, .str ⟨#[]⟩, .isl .fld []] [((0, 4), (.t 21)), ((4, 4), (.t 23))]⟩,
               ⟨some 25, none, .bsl .two [(.t 24)]⟩,
               ⟨some 26, none, .app 26 .two 68719476736 (.t 19) (.t 25)⟩,
               ⟨some 5, none, .mv (.t 26)⟩])))
           (.keep [5, 13, 14, 15] [.s 26] (.own 5 .two (.sub (.s 5) 5) (.reg [⟨some 27, none, .bin .add .num (.t 15) (.c (.int .i64 1))⟩,
             ⟨some 15, none, .mv (.t 27)⟩])))))))))))
     (.seq
      (.fz 5 0 (.reg [⟨some 28, none, .mv (.t 5)⟩,
        ⟨some 29, none, .call 29 48 [(.t 28)]⟩,
        ⟨some 2, none, .mv (.t 29)⟩,
        ⟨some 3, none, .mv (.c (.int .i64 0))⟩]))
      .ret)))))⟩

/-- dict.To -/
def ir312 : Fn TT := ⟨19, [.cell 4 4 true, .t 5],
 (.seq
  (.reg [⟨some 3, none, .box 3 (.t 1)⟩,
    ⟨some 4, none, .alloc 4 [.int .i64 0, .int .i64 0, .str ⟨#[]⟩, .isl .fld []]⟩,
    ⟨some 5, none, .mv (.c (.bool false))⟩])
  (.seq
   (.seq
    (.reg [⟨some 7, none, .mv (.t 0)⟩,
      ⟨some 8, none, .load (.t 3) 4 true⟩,
      ⟨some 9, none, .call 9 47 [(.t 7), (.c (.int .i64 0)), (.t 8)]⟩,
      ⟨some 6, none, .mv (.t 9)⟩])
    (.seq
     (.reg [⟨some 10, none, .mv (.t 6)⟩,
       ⟨some 11, none, .bin .geq .num (.t 10) (.c (.int .i64 0))⟩])
     (.cond 11
      (.seq
       (.reg [⟨some 12, none, .mv (.t 0)⟩,
         ⟨some 13, none, .mv (.t 6)⟩,
         ⟨some 14, none, .idxA (.t 12) (.t 13) 8⟩,
         ⟨some 15, none, .idxArr (.t 14) (.c (.int .i64 1)) 4 2⟩,
         ⟨some 16, none, .load (.t 15) 4 true⟩,
         ⟨some 17, none, .call 17 57 [(.t 16)]⟩,
         ⟨none, none, .store (.t 4) (.t 17) 4⟩,
         ⟨some 5, none, .mv (.c (.bool true))⟩])
       .ret)
      .skip)))
   (.seq
    (.reg [⟨some 18, none, .build [.int .i64 0, .int .i64 0, .str ⟨#[]⟩, .isl .fld []] []⟩,
      ⟨none, none, .store (.t 4) (.t 18) 4⟩,
      ⟨some 5, none, .mv (.c (.bool false))⟩])
    .ret)))⟩

/-- dict.From -/
def ir313 : Fn TT := ⟨19, [.cell 4 4 true, .t 5],
 (.seq
  (.reg [⟨some 3, none, .box 3 (.t 1)⟩,
    ⟨some 4, none, .alloc 4 [.int .i64 0, .int .i64 0, .str ⟨#[]⟩, .isl .fld []]⟩,
    ⟨some 5, none, .mv (.c (.bool false))⟩])
  (.seq
   (.seq
    (.reg [⟨some 7, none, .mv (.t 0)⟩,
      ⟨some 8, none, .load (.t 3) 4 true⟩,
      ⟨some 9, none, .call 9 47 [(.t 7), (.c (.int .i64 1)), (.t 8)]⟩,
      ⟨some 6, none, .mv (.t 9)⟩])
    (.seq
     (.reg [⟨some 10, none, .mv (.t 6)⟩,
       ⟨some 11, none, .bin .geq .num (.t 10) (.c (.int .i64 0))⟩])
     (.cond 11
      (.seq
       (.reg [⟨some 12, none, .mv (.t 0)⟩,
         ⟨some 13, none, .mv (.t 6)⟩,
         ⟨some 14, none, .idxA (.t 12) (.t 13) 8⟩,
         ⟨some 15, none, .idxArr (.t 14) (.c (.int .i64 0)) 4 2⟩,
         ⟨some 16, none, .load (.t 15) 4 true⟩,
         ⟨some 17, none, .call 17 57 [(.t 16)]⟩,
         ⟨none, none, .store (.t 4) (.t 17) 4⟩,
         ⟨some 5, none, .mv (.c (.bool true))⟩])
       .ret)
      .skip)))
   (.seq
    (.reg [⟨some 18, none, .build [.int .i64 0, .int .i64 0, .str ⟨#[]⟩, .isl .fld []] []⟩,
      ⟨none, none, .store (.t 4) (.t 18) 4⟩,
      ⟨some 5, none, .mv (.c (.bool false))⟩])
    .ret)))⟩

/-- clapkeep3.DictInverse -/
def ir303 : Fn TT := ⟨112, [.t 4],
 (.seq
  (.reg [⟨some 4, none, .mv (.c (.bool false))⟩])
  (.seq
   (.reg [⟨some 18, none, .mv (.t 1)⟩,
     ⟨some 19, none, .call 19 26 [(.t 18), (.c (.int .i64 12))]⟩,
     ⟨some 20, none, .bin .add .num (.c (.int .i64 1)) (.t 19)⟩,
     ⟨some 1, none, .mv (.t 20)⟩])
   (.seq
    (.reg [⟨some 21, none, .mv (.t 0)⟩,
      ⟨some 22, none, .mv (.t 1)⟩,
      ⟨some 23, none, .call 23 27 [(.t 21), (.t 22)]⟩,
      ⟨some 5, none, .mv (.t 23)⟩])
    (.seq
     (.reg [⟨some 25, none, .mv (.t 5)⟩,
       ⟨some 26, none, .call 26 309 [(.t 25)]⟩,
       ⟨some 24, none, .mv (.t 26)⟩,
       ⟨some 27, none, .ext (.t 24) 0⟩,
       ⟨some 28, none, .ext (.t 24) 1⟩,
       ⟨some 6, none, .mv (.t 27)⟩,
       ⟨some 7, none, .mv (.t 28)⟩])
     (.seq
      (.reg [⟨some 30, none, .mv (.t 6)⟩,
        ⟨some 31, none, .call 31 309 [(.t 30)]⟩,
        ⟨some 29, none, .mv (.t 31)⟩,
        ⟨some 32, none, .ext (.t 29) 0⟩,
        ⟨some 33, none, .ext (.t 29) 1⟩,
        ⟨some 8, none, .mv (.t 32)⟩,
        ⟨some 9, none, .mv (.t 33)⟩])
      (.seq
       (.reg [⟨some 35, none, .mv (.t 5)⟩,
         ⟨some 36, none, .mv (.t 6)⟩,
         ⟨some 37, none, .call 37 28 [(.t 35), (.t 36)]⟩,
         ⟨some 34, none, .mv (.t 37)⟩,
         ⟨some 38, none, .ext (.t 34) 0⟩,
         ⟨some 39, none, .ext (.t 34) 1⟩,
         ⟨some 10, none, .mv (.t 38)⟩,
         ⟨some 11, none, .mv (.t 39)⟩])
       (.seq
        (.seq
         (.reg [⟨some 40, none, .mv (.t 7)⟩,
           ⟨some 41, none, .bin .neq .num (.t 40) (.c (.int .i64 0))⟩,
           ⟨some 42, none, .mv (.t 41)⟩,
           ⟨some 43, (some (42, false)), .mv (.t 9)⟩,
           ⟨some 44, (some (42, false)), .bin .neq .num (.t 43) (.c (.int .i64 0))⟩,
           ⟨some 45, none, .pick (.t 42) (.c (.bool true)) (.t 44)⟩,
           ⟨some 46, none, .mv (.t 45)⟩,
           ⟨some 47, (some (46, false)), .mv (.t 11)⟩,
           ⟨some 48, (some (46, false)), .bin .neq .num (.t 47) (.c (.int .i64 0))⟩,
           ⟨some 49, none, .pick (.t 46) (.c (.bool true)) (.t 48)⟩,
           ⟨some 50, none, .mv (.t 49)⟩,
           ⟨some 51, (some (50, false)), .mv (.t 10)⟩,
           ⟨some 52, (some (50, false)), .len false (.t 51)⟩,
           ⟨some 53, (some (50, false)), .mv (.t 1)⟩,
           ⟨some 54, (some (50, false)), .bin .neq .num (.t 52) (.t 53)⟩,
           ⟨some 55, none, .pick (.t 50) (.c (.bool true)) (.t 54)⟩,
           ⟨some 56, none, .mv (.t 55)⟩,
           ⟨some 57, (some (56, false)), .mv (.t 8)⟩,
           ⟨some 58, (some (56, false)), .mv (.t 5)⟩,
           ⟨some 59, (some (56, false)), .call 59 29 [(.t 57), (.t 58)]⟩,
           ⟨some 60, (some (56, false)), .un .not (.t 59)⟩,
           ⟨some 61, none, .pick (.t 56) (.c (.bool true)) (.t 60)⟩])
         (.cond 61
          (.seq
           (.reg [⟨some 4, none, .mv (.c (.bool false))⟩])
           .ret)
          .skip))
        (.seq
         (.seq
          (.reg [⟨some 62, none, .mv (.t 10)⟩,
            ⟨some 63, none, .len false (.t 62)⟩,
            ⟨some 64, none, .mv (.c (.int .i64 0))⟩])
          (.block 0
           (.loop (.keep [5, 6, 62, 63, 64] []
            (.seq
             (.reg [⟨some 65, none, .bin .lss .num (.t 64) (.t 63)⟩])
             (.seq
              (.cond 65
               .skip
               (.exit 0))
              (.seq
               (.block 1
                (.seq
                 (.reg [⟨some 66, none, .mv (.t 64)⟩,
                   ⟨some 67, none, .idxA (.t 62) (.t 64) 8⟩,
                   ⟨some 68, none, .load (.t 67) 8 true⟩,
                   ⟨some 13, none, .alloc 13 [.int .i64 0, .int .i64 0, .str ⟨#[]⟩, .isl .fld [], .int .i64 0, .int .i64 0, .str ⟨#[]⟩, .isl .fld []]⟩,
                   ⟨some 12, none, .mv (.t 66)⟩,
                   ⟨none, none, .store (.t 13) (.t 68) 8⟩])
                 (.seq
                  (.reg [⟨some 70, none, .mv (.t 6)⟩,
                    ⟨some 71, none, .idxArr (.t 13) (.c (.int .i64 0)) 4 2⟩,
                    ⟨some 72, none, .load (.t 71) 4 true⟩,
                    ⟨some 73, none, .call 73 312 [(.t 70), (.t 72)]⟩,
                    ⟨some 69, none, .mv (.t 73)⟩,
                    ⟨some 74, none, .ext (.t 69) 0⟩,
                    ⟨some 75, none, .ext (.t 69) 1⟩,
                    ⟨some 14, none, .alloc 14 [.int .i64 0, .int .i64 0, .str ⟨#[]⟩, .isl .fld []]⟩,
                    ⟨none, none, .store (.t 14) (.t 74) 4⟩,
                    ⟨some 15, none, .mv (.t 75)⟩])
                  (.seq
                   (.reg [⟨some 77, none, .mv (.t 5)⟩,
                     ⟨some 78, none, .idxArr (.t 13) (.c (.int .i64 0)) 4 2⟩,
                     ⟨some 79, none, .load (.t 78) 4 true⟩,
                     ⟨some 80, none, .call 80 313 [(.t 77), (.t 79)]⟩,
                     ⟨some 76, none, .mv (.t 80)⟩,
                     ⟨some 81, none, .ext (.t 76) 0⟩,
                     ⟨some 82, none, .ext (.t 76) 1⟩,
                     ⟨some 16, none, .alloc 16 [.int .i64 0, .int .i64 0, .str ⟨#[]⟩, .isl .fld []]⟩,
                     ⟨none, none, .store (.t 16) (.t 81) 4⟩,
                     ⟨some 17, none, .mv (.t 82)⟩])
                   (.seq
                    (.drw [] (ol [0, 1, 2, 3, 4, 5, 6, 7, 8, 9, 10, 11, 12, 13, 14, 15, 16, 17, 18, 19, 20, 21, 22, 23, 24, 25, 26, 27]) [] [0, 1, 2, 3, 4, 5, 6, 7, 8, 10, 11, 12, 13, 14, 15, 18, 19, 20, 21, 22, 23, 26, 27] [⟨some 83, none, .mv (.t 15)⟩,
                      ⟨some 84, none, .un .not (.t 83)⟩,
                      ⟨some 85, none, .mv (.t 84)⟩,
                      ⟨some 86, (some (85, false)), .mv (.t 17)⟩,
                      ⟨some 87, (some (85, false)), .un .not (.t 86)⟩,
                      ⟨some 88, none, .pick (.t 85) (.c (.bool true)) (.t 87)⟩,
                      ⟨some 89, none, .mv (.t 88)⟩,
                      ⟨some 90, (some (89, false)), .load (.t 14) 4 true⟩,
                      ⟨some 91, (some (89, false)), .load (.t 16) 4 true⟩,
                      ⟨some 92, (some (89, false)), .call 92 11 [(.t 90), (.t 91)]⟩,
                      ⟨some 93, (some (89, false)), .un .not (.t 92)⟩,
                      ⟨some 94, none, .pick (.t 89) (.c (.bool true)) (.t 93)⟩,
                      ⟨some 95, none, .mv (.t 94)⟩,
                      ⟨some 96, (some (95, false)), .idxArr (.t 13) (.c (.int .i64 0)) 4 2⟩,
                      ⟨some 97, (some (95, false)), .load (.t 96) 4 true⟩,
                      ⟨some 98, (some (95, false)), .mv (.t 12)⟩,
                      ⟨some 99, (some (95, false)), .call 99 44 [(.t 98)]⟩,
                      ⟨some 100, (some (95, false)), .call 100 11 [(.t 97), (.t 99)]⟩,
                      ⟨some 101, (some (95, false)), .un .not (.t 100)⟩,
                      ⟨some 102, none, .pick (.t 95) (.c (.bool true)) (.t 101)⟩,
                      ⟨some 103, none, .mv (.t 102)⟩,
                      ⟨some 104, (some (103, false)), .idxArr (.t 13) (.c (.int .i64 1)) 4 2⟩,
                      ⟨some 105, (some (103, false)), .load (.t 104) 4 true⟩,
                      ⟨some 106, (some (103, false)), .mv (.t 12)⟩,
                      ⟨some 107, (some (103, false)), .call 107 44 [(.t 106)]⟩,
                      ⟨some 108, (some (103, false)), .call 108 11 [(.t 105), (.t 107)]⟩,
                      ⟨some 109, (some (103, false)), .un .not (.t 108)⟩,
                      ⟨some 110, none, .pick (.t 103) (.c (.bool true)) (.t 109)⟩])
                    (.cond 110
                     (.seq
                      (.reg [⟨some 4, none, .mv (.c (.bool false))⟩])
                      .ret)
                     .skip))))))
               (.reg [⟨some 111, none, .bin .add .num (.t 64) (.c (.int .i64 1))⟩,
                 ⟨some 64, none, .mv (.t 111)⟩]))))))))
         (.seq
          (.reg [⟨some 4, none, .mv (.c (.bool true))⟩])
          .ret)))))))))⟩

end Go.Clap
