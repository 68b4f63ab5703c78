/- PRINTED by mkir.py: the small code of the loaded functions. -/
import Derived.Test.YtnielhfaioakkaaGreatClapV13
namespace Go.Clap

/-- value.Copy -/
def ir57 : Fn TT := ⟨28, [.cell 2 4 true],
 (.seq
  (.reg [⟨some 1, none, .box 1 (.t 0)⟩,
    ⟨some 2, none, .alloc 2 [.int .i64 0, .int .i64 0, .str ⟨#[]⟩, .isl .fld []]⟩])
  (.seq
   (.reg [⟨some 4, none, .fa (.t 1) 3⟩,
     ⟨some 5, none, .load (.t 4) 1 false⟩,
     ⟨some 6, none, .call 6 79 [(.t 5)]⟩,
     ⟨some 7, none, .fa (.t 1) 3⟩,
     ⟨none, none, .store (.t 7) (.t 6) 1⟩])
   (.seq
    (.seq
     (.ownc (.s 1) 3 .fld (.sub (.s 1) 3) (.reg [⟨some 8, none, .fa (.t 1) 3⟩,
       ⟨some 9, none, .load (.t 8) 1 false⟩,
       ⟨some 10, none, .len false (.t 9)⟩,
       ⟨some 11, none, .mv (.c (.int .i64 0))⟩]))
     (.block 0
      (.loop (.keep [1, 2, 10, 11] [.s 1, .s 2, (.sub (.s 1) 3)]
       (.seq
        (.reg [⟨some 12, none, .bin .lss .num (.t 11) (.t 10)⟩])
        (.seq
         (.cond 12
          .skip
          (.exit 0))
         (.seq
          (.block 1
           (.seq
            (.reg [⟨some 13, none, .mv (.t 11)⟩,
              ⟨some 3, none, .mv (.t 13)⟩])
            (.drw [] (ol [0, 1, 2, 3, 4, 5, 6, 7, 8, 9, 10, 11, 12]) [12] [0, 1, 2, 3, 4, 5, 6, 7, 8, 10, 11] [⟨some 14, none, .fa (.t 1) 3⟩,
              ⟨some 15, none, .load (.t 14) 1 false⟩,
              ⟨some 16, none, .mv (.t 3)⟩,
              ⟨some 17, none, .fa (.t 1) 3⟩,
              ⟨some 18, none, .load (.t 17) 1 false⟩,
              ⟨some 19, none, .mv (.t 3)⟩,
              ⟨some 20, none, .idxA (.t 18) (.t 19) 5⟩,
              ⟨some 21, none, .fa (.t 20) 1⟩,
              ⟨some 22, none, .load (.t 21) 4 true⟩,
              ⟨some 23, none, .call 23 57 [(.t 22)]⟩,
              ⟨some 24, none, .idxA (.t 15) (.t 16) 5⟩,
              ⟨some 25, none, .fa (.t 24) 1⟩,
              ⟨none, none, .store (.t 25) (.t 23) 4⟩])))
          (.reg [⟨some 26, none, .bin .add .num (.t 11) (.c (.int .i64 1))⟩,
            ⟨some 11, none, .mv (.t 26)⟩]))))))))
    (.seq
     (.fzc (.s 1) 3 (.reg [⟨some 27, none, .load (.t 1) 4 true⟩,
       ⟨none, none, .store (.t 2) (.t 27) 4⟩]))
     .ret))))⟩

/-- slices.Clone[[]api.Field,api.Field] -/
def ir79 : Fn TT := ⟨8, [.t 2],
 (.seq
  (.reg [⟨some 2, none, .mv (.c (.nils))⟩])
  (.seq
   (.seq
    (.reg [⟨some 3, none, .mv (.t 0)⟩,
      ⟨some 4, none, .bin .eql .slice (.t 3) (.c (.nils))⟩])
    (.cond 4
     (.seq
      (.reg [⟨some 2, none, .mv (.c (.nils))⟩])
      .ret)
     .skip))
   (.seq
    (.reg [⟨some 5, none, .bslice 5 .fld []⟩,
      ⟨some 6, none, .mv (.t 0)⟩,
      ⟨some 7, none, .app 7 .fld 68719476736 (.t 5) (.t 6)⟩,
      ⟨some 2, none, .mv (.t 7)⟩])
    .ret)))⟩

/-- value.Get -/
def ir35 : Fn TT := ⟨29, [.cell 4 4 true, .t 5],
 (.seq
  (.reg [⟨some 2, none, .box 2 (.t 0)⟩,
    ⟨some 4, none, .alloc 4 [.int .i64 0, .int .i64 0, .str ⟨#[]⟩, .isl .fld []]⟩,
    ⟨some 5, none, .mv (.c (.bool false))⟩])
  (.seq
   (.seq
    (.reg [⟨some 8, none, .fa (.t 2) 3⟩,
      ⟨some 9, none, .load (.t 8) 1 false⟩,
      ⟨some 10, none, .len false (.t 9)⟩,
      ⟨some 11, none, .mv (.c (.int .i64 0))⟩])
    (.block 0
     (.loop (.keep [1, 2, 4, 9, 10, 11] [.s 2, .s 4]
      (.seq
       (.reg [⟨some 12, none, .bin .lss .num (.t 11) (.t 10)⟩])
       (.seq
        (.cond 12
         .skip
         (.exit 0))
        (.seq
         (.block 1
          (.seq
           (.reg [⟨some 13, none, .idxA (.t 9) (.t 11) 5⟩,
             ⟨some 14, none, .load (.t 13) 5 true⟩,
             ⟨some 7, none, .alloc 7 [.str ⟨#[]⟩, .int .i64 0, .int .i64 0, .str ⟨#[]⟩, .isl .fld []]⟩,
             ⟨none, none, .store (.t 7) (.t 14) 5⟩])
           (.seq
            (.reg [⟨some 15, none, .fa (.t 7) 0⟩,
              ⟨some 16, none, .load (.t 15) 1 false⟩,
              ⟨some 17, none, .mv (.t 1)⟩,
              ⟨some 18, none, .bin .eql .str (.t 16) (.t 17)⟩,
              ⟨some 19, none, .mv (.t 18)⟩,
              ⟨some 20, (some (19, true)), .fa (.t 2) 0⟩,
              ⟨some 21, (some (19, true)), .load (.t 20) 1 false⟩,
              ⟨some 22, (some (19, true)), .bin .neq .num (.t 21) (.c (.int .i64 8))⟩,
              ⟨some 23, none, .pick (.t 19) (.t 22) (.c (.bool false))⟩])
            (.cond 23
             (.seq
              (.reg [⟨some 24, none, .fa (.t 7) 1⟩,
                ⟨some 25, none, .load (.t 24) 4 true⟩,
                ⟨some 26, none, .call 26 57 [(.t 25)]⟩,
                ⟨none, none, .store (.t 4) (.t 26) 4⟩,
                ⟨some 5, none, .mv (.c (.bool true))⟩])
              .ret)
             .skip))))
         (.reg [⟨some 27, none, .bin .add .num (.t 11) (.c (.int .i64 1))⟩,
           ⟨some 11, none, .mv (.t 27)⟩]))))))))
   (.seq
    (.reg [⟨some 28, none, .build [.int .i64 0, .int .i64 0, .str ⟨#[]⟩, .isl .fld []] []⟩,
      ⟨none, none, .store (.t 4) (.t 28) 4⟩,
      ⟨some 5, none, .mv (.c (.bool false))⟩])
    .ret)))⟩

/-- align.ByKey -/
def ir16 : Fn TT := ⟨117, [.t 6, .t 7],
 (.seq
  (.reg [⟨some 3, none, .box 3 (.t 0)⟩,
    ⟨some 4, none, .box 4 (.t 1)⟩,
    ⟨some 6, none, .mv (.c (.nils))⟩,
    ⟨some 7, none, .mv (.c (.int .i64 0))⟩])
  (.seq
   (.seq
    (.reg [⟨some 25, none, .load (.t 3) 4 true⟩,
      ⟨some 26, none, .load (.t 4) 4 true⟩,
      ⟨some 27, none, .call 27 31 [(.t 25), (.t 26)]⟩,
      ⟨some 8, none, .mv (.t 27)⟩])
    (.seq
     (.reg [⟨some 28, none, .mv (.t 8)⟩,
       ⟨some 29, none, .bin .neq .num (.t 28) (.c (.int .i64 0))⟩])
     (.cond 29
      (.seq
       (.reg [⟨some 30, none, .mv (.t 8)⟩,
         ⟨some 6, none, .mv (.c (.nils))⟩,
         ⟨some 7, none, .mv (.t 30)⟩])
       .ret)
      .skip)))
   (.seq
    (.seq
     (.reg [⟨some 31, none, .load (.t 3) 4 true⟩,
       ⟨some 32, none, .load (.t 4) 4 true⟩,
       ⟨some 33, none, .bsl .val [(.t 31), (.t 32)]⟩,
       ⟨some 34, none, .len false (.t 33)⟩,
       ⟨some 35, none, .mv (.c (.int .i64 0))⟩])
     (.block 0
      (.loop (.keep [2, 3, 4, 33, 34, 35] [.s 3, .s 4]
       (.seq
        (.reg [⟨some 36, none, .bin .lss .num (.t 35) (.t 34)⟩])
        (.seq
         (.cond 36
          .skip
          (.exit 0))
         (.seq
          (.block 1
           (.seq
            (.reg [⟨some 37, none, .idxA (.t 33) (.t 35) 4⟩,
              ⟨some 38, none, .load (.t 37) 4 true⟩,
              ⟨some 10, none, .alloc 10 [.int .i64 0, .int .i64 0, .str ⟨#[]⟩, .isl .fld []]⟩,
              ⟨none, none, .store (.t 10) (.t 38) 4⟩])
            (.seq
             (.reg [⟨some 39, none, .fa (.t 10) 3⟩,
               ⟨some 40, none, .load (.t 39) 1 false⟩,
               ⟨some 41, none, .len false (.t 40)⟩,
               ⟨some 42, none, .mv (.c (.int .i64 0))⟩])
             (.block 2
              (.loop (.keep [2, 3, 4, 33, 34, 35, 40, 41, 42] [.s 3, .s 4]
               (.seq
                (.reg [⟨some 43, none, .bin .lss .num (.t 42) (.t 41)⟩])
                (.seq
                 (.cond 43
                  .skip
                  (.exit 2))
                 (.seq
                  (.block 3
                   (.seq
                    (.reg [⟨some 44, none, .idxA (.t 40) (.t 42) 5⟩,
                      ⟨some 45, none, .load (.t 44) 5 true⟩,
                      ⟨some 12, none, .alloc 12 [.str ⟨#[]⟩, .int .i64 0, .int .i64 0, .str ⟨#[]⟩, .isl .fld []]⟩,
                      ⟨none, none, .store (.t 12) (.t 45) 5⟩])
                    (.seq
                     (.seq
                      (.reg [⟨some 46, none, .fa (.t 12) 1⟩,
                        ⟨some 47, none, .fa (.t 46) 0⟩,
                        ⟨some 48, none, .load (.t 47) 1 false⟩,
                        ⟨some 49, none, .bin .neq .num (.t 48) (.c (.int .i64 6))⟩])
                      (.cond 49
                       (.seq
                        (.reg [⟨some 6, none, .mv (.c (.nils))⟩,
                          ⟨some 7, none, .mv (.c (.int .i64 8))⟩])
                        .ret)
                       .skip))
                     (.seq
                      (.reg [⟨some 51, none, .fa (.t 12) 1⟩,
                        ⟨some 52, none, .load (.t 51) 4 true⟩,
                        ⟨some 53, none, .mv (.t 2)⟩,
                        ⟨some 54, none, .call 54 35 [(.t 52), (.t 53)]⟩,
                        ⟨some 50, none, .mv (.t 54)⟩,
                        ⟨some 55, none, .ext (.t 50) 0⟩,
                        ⟨some 56, none, .ext (.t 50) 1⟩,
                        ⟨some 13, none, .alloc 13 [.int .i64 0, .int .i64 0, .str ⟨#[]⟩, .isl .fld []]⟩,
                        ⟨none, none, .store (.t 13) (.t 55) 4⟩,
                        ⟨some 14, none, .mv (.t 56)⟩])
                      (.seq
                       (.reg [⟨some 57, none, .mv (.t 14)⟩,
                         ⟨some 58, none, .un .not (.t 57)⟩])
                       (.cond 58
                        (.seq
                         (.reg [⟨some 6, none, .mv (.c (.nils))⟩,
                           ⟨some 7, none, .mv (.c (.int .i64 16))⟩])
                         .ret)
                        .skip))))))
                  (.reg [⟨some 59, none, .bin .add .num (.t 42) (.c (.int .i64 1))⟩,
                    ⟨some 42, none, .mv (.t 59)⟩]))))))))))
          (.reg [⟨some 60, none, .bin .add .num (.t 35) (.c (.int .i64 1))⟩,
            ⟨some 35, none, .mv (.t 60)⟩]))))))))
    (.seq
     (.reg [⟨some 61, none, .fa (.t 3) 3⟩,
       ⟨some 62, none, .load (.t 61) 1 false⟩,
       ⟨some 63, none, .len false (.t 62)⟩,
       ⟨some 64, none, .mk 64 .bool false 68719476736 (.t 63)⟩,
       ⟨some 15, none, .mv (.t 64)⟩])
     (.seq
      (.reg [⟨some 16, none, .mv (.c (.nils))⟩])
      (.seq
       (.seq
        (.reg [⟨some 65, none, .fa (.t 4) 3⟩,
          ⟨some 66, none, .load (.t 65) 1 false⟩,
          ⟨some 67, none, .len false (.t 66)⟩,
          ⟨some 68, none, .mv (.c (.int .i64 0))⟩])
        (.block 4
         (.own 16 .pair (.sub (.s 16) 16) (.loop (.keep [2, 3, 15, 16, 66, 67, 68] [.s 3, .s 64, (.sub (.s 16) 16)]
          (.seq
           (.reg [⟨some 69, none, .bin .lss .num (.t 68) (.t 67)⟩])
           (.seq
            (.cond 69
             .skip
             (.exit 4))
            (.seq
             (.block 5
              (.seq
               (.reg [⟨some 70, none, .mv (.t 68)⟩,
                 ⟨some 71, none, .idxA (.t 66) (.t 68) 5⟩,
                 ⟨some 72, none, .load (.t 71) 5 true⟩,
                 ⟨some 18, none, .alloc 18 [.str ⟨#[]⟩, .int .i64 0, .int .i64 0, .str ⟨#[]⟩, .isl .fld []]⟩,
                 ⟨some 17, none, .mv (.t 70)⟩,
                 ⟨none, none, .store (.t 18) (.t 72) 5⟩])
               (.seq
                (.reg [⟨some 74, none, .fa (.t 18) 1⟩,
                  ⟨some 75, none, .load (.t 74) 4 true⟩,
                  ⟨some 76, none, .mv (.t 2)⟩,
                  ⟨some 77, none, .call 77 35 [(.t 75), (.t 76)]⟩,
                  ⟨some 73, none, .mv (.t 77)⟩,
                  ⟨some 78, none, .ext (.t 73) 0⟩,
                  ⟨some 79, none, .ext (.t 73) 1⟩,
                  ⟨some 19, none, .alloc 19 [.int .i64 0, .int .i64 0, .str ⟨#[]⟩, .isl .fld []]⟩,
                  ⟨none, none, .store (.t 19) (.t 78) 4⟩,
                  ⟨some 20, none, .mv (.t 79)⟩])
                (.seq
                 (.reg [⟨some 80, none, .fa (.t 3) 3⟩,
                   ⟨some 81, none, .load (.t 80) 1 false⟩,
                   ⟨some 82, none, .len false (.t 81)⟩,
                   ⟨some 83, none, .mv (.c (.int .i64 0))⟩])
                 (.block 6
                  (.loop (.keep [2, 3, 15, 16, 17, 19, 66, 67, 68, 81, 82, 83] [.s 3, .s 19, .s 64, (.sub (.s 16) 16)]
                   (.seq
                    (.reg [⟨some 84, none, .bin .lss .num (.t 83) (.t 82)⟩])
                    (.seq
                     (.cond 84
                      .skip
                      (.exit 6))
                     (.seq
                      (.block 7
                       (.seq
                        (.reg [⟨some 85, none, .mv (.t 83)⟩,
                          ⟨some 86, none, .idxA (.t 81) (.t 83) 5⟩,
                          ⟨some 87, none, .load (.t 86) 5 true⟩,
                          ⟨some 22, none, .alloc 22 [.str ⟨#[]⟩, .int .i64 0, .int .i64 0, .str ⟨#[]⟩, .isl .fld []]⟩,
                          ⟨some 21, none, .mv (.t 85)⟩,
                          ⟨none, none, .store (.t 22) (.t 87) 5⟩])
                        (.seq
                         (.reg [⟨some 89, none, .fa (.t 22) 1⟩,
                           ⟨some 90, none, .load (.t 89) 4 true⟩,
                           ⟨some 91, none, .mv (.t 2)⟩,
                           ⟨some 92, none, .call 92 35 [(.t 90), (.t 91)]⟩,
                           ⟨some 88, none, .mv (.t 92)⟩,
                           ⟨some 93, none, .ext (.t 88) 0⟩,
                           ⟨some 94, none, .ext (.t 88) 1⟩,
                           ⟨some 23, none, .alloc 23 [.int .i64 0, .int .i64 0, .str ⟨#[]⟩, .isl .fld []]⟩,
                           ⟨none, none, .store (.t 23) (.t 93) 4⟩,
                           ⟨some 24, none, .mv (.t 94)⟩])
                         (.seq
                          (.reg [⟨some 95, none, .mv (.t 15)⟩,
                            ⟨some 96, none, .mv (.t 21)⟩,
                            ⟨some 97, none, .idxA (.t 95) (.t 96) 1⟩,
                            ⟨some 98, none, .load (.t 97) 1 false⟩,
                            ⟨some 99, none, .un .not (.t 98)⟩,
                            ⟨some 100, none, .mv (.t 99)⟩,
                            ⟨some 101, (some (100, true)), .load (.t 19) 4 true⟩,
                            ⟨some 102, (some (100, true)), .load (.t 23) 4 true⟩,
                            ⟨some 103, (some (100, true)), .call 103 11 [(.t 101), (.t 102)]⟩,
                            ⟨some 104, none, .pick (.t 100) (.t 103) (.c (.bool false))⟩])
                          (.cond 104
                           (.seq
                            (.reg [⟨some 105, none, .mv (.t 15)⟩,
                              ⟨some 106, none, .mv (.t 21)⟩,
                              ⟨some 107, none, .idxA (.t 105) (.t 106) 1⟩,
                              ⟨none, none, .store (.t 107) (.c (.bool true)) 1⟩])
                            (.seq
                             (.reg [⟨some 108, none, .mv (.t 16)⟩,
                               ⟨some 109, none, .mv (.t 21)⟩,
                               ⟨some 110, none, .mv (.t 17)⟩,
                               ⟨some 111, none, .build [.int .i64 0, .int .i64 0] [((0, 1), (.t 109)), ((1, 1), (.t 110))]⟩,
                               ⟨some 112, none, .bsl .pair [(.t 111)]⟩,
                               ⟨some 113, none, .app 113 .pair 68719476736 (.t 108) (.t 112)⟩,
                               ⟨some 16, none, .mv (.t 113)⟩])
                             (.keep [2, 3, 15, 16, 66, 67, 68] [.s 3, .s 64, .s 113] (.own 16 .pair (.sub (.s 16) 16) (.exit 6)))))
                           .skip)))))
                      (.reg [⟨some 114, none, .bin .add .num (.t 83) (.c (.int .i64 1))⟩,
                        ⟨some 83, none, .mv (.t 114)⟩])))))))))))
             (.reg [⟨some 115, none, .bin .add .num (.t 68) (.c (.int .i64 1))⟩,
               ⟨some 68, none, .mv (.t 115)⟩])))))))))
       (.seq
        (.fz 16 0 (.reg [⟨some 116, none, .mv (.t 16)⟩,
          ⟨some 6, none, .mv (.t 116)⟩,
          ⟨some 7, none, .mv (.c (.int .i64 0))⟩]))
        .ret)))))))⟩

/-- align.Kept -/
def ir17 : Fn TT := ⟨71, [.t 6, .t 7, .t 8],
 (.seq
  (.reg [⟨some 6, none, .mv (.c (.nils))⟩,
    ⟨some 7, none, .mv (.c (.nils))⟩,
    ⟨some 8, none, .mv (.c (.int .i64 0))⟩])
  (.seq
   (.seq
    (.reg [⟨some 18, none, .mv (.t 0)⟩,
      ⟨some 19, none, .mv (.t 1)⟩,
      ⟨some 20, none, .mv (.t 2)⟩,
      ⟨some 21, none, .call 21 12 [(.t 18), (.t 19), (.t 20)]⟩,
      ⟨some 9, none, .mv (.t 21)⟩])
    (.seq
     (.reg [⟨some 22, none, .mv (.t 9)⟩,
       ⟨some 23, none, .bin .neq .num (.t 22) (.c (.int .i64 0))⟩])
     (.cond 23
      (.seq
       (.reg [⟨some 24, none, .mv (.t 9)⟩,
         ⟨some 6, none, .mv (.c (.nils))⟩,
         ⟨some 7, none, .mv (.c (.nils))⟩,
         ⟨some 8, none, .mv (.t 24)⟩])
       .ret)
      .skip)))
   (.seq
    (.reg [⟨some 25, none, .mv (.t 2)⟩,
      ⟨some 26, none, .mk 26 .int (0 : Int) 68719476736 (.t 25)⟩,
      ⟨some 10, none, .mv (.t 26)⟩])
    (.seq
     (.seq
      (.reg [⟨some 27, none, .mv (.t 10)⟩,
        ⟨some 28, none, .len false (.t 27)⟩,
        ⟨some 29, none, .mv (.c (.int .i64 0))⟩])
      (.block 0
       (.loop (.keep [0, 1, 10, 28, 29] [.s 26]
        (.seq
         (.reg [⟨some 30, none, .bin .lss .num (.t 29) (.t 28)⟩])
         (.seq
          (.cond 30
           .skip
           (.exit 0))
          (.seq
           (.block 1
            (.seq
             (.reg [⟨some 31, none, .mv (.t 29)⟩,
               ⟨some 11, none, .mv (.t 31)⟩])
             (.reg [⟨some 32, none, .mv (.t 10)⟩,
               ⟨some 33, none, .mv (.t 11)⟩,
               ⟨some 34, none, .idxA (.t 32) (.t 33) 1⟩,
               ⟨none, none, .store (.t 34) (.c (.int .i64 (-1))) 1⟩])))
           (.reg [⟨some 35, none, .bin .add .num (.t 29) (.c (.int .i64 1))⟩,
             ⟨some 29, none, .mv (.t 35)⟩]))))))))
     (.seq
      (.reg [⟨some 36, none, .mv (.t 1)⟩,
        ⟨some 37, none, .mk 37 .bool false 68719476736 (.t 36)⟩,
        ⟨some 12, none, .mv (.t 37)⟩])
      (.seq
       (.seq
        (.reg [⟨some 38, none, .mv (.t 0)⟩,
          ⟨some 39, none, .len false (.t 38)⟩,
          ⟨some 40, none, .mv (.c (.int .i64 0))⟩])
        (.block 2
         (.loop (.keep [10, 12, 38, 39, 40] [.s 26, .s 37]
          (.seq
           (.reg [⟨some 41, none, .bin .lss .num (.t 40) (.t 39)⟩])
           (.seq
            (.cond 41
             .skip
             (.exit 2))
            (.seq
             (.block 3
              (.seq
               (.reg [⟨some 42, none, .idxA (.t 38) (.t 40) 2⟩,
                 ⟨some 43, none, .load (.t 42) 2 true⟩,
                 ⟨some 14, none, .alloc 14 [.int .i64 0, .int .i64 0]⟩,
                 ⟨none, none, .store (.t 14) (.t 43) 2⟩])
               (.drw [.s 26, .s 37] (ol [0, 1, 2, 3, 4, 5, 6, 7, 8, 9, 10, 11]) [11] [0, 1, 2, 3, 4, 5, 6, 7, 8, 10] [⟨some 44, none, .mv (.t 10)⟩,
                 ⟨some 45, none, .fa (.t 14) 1⟩,
                 ⟨some 46, none, .load (.t 45) 1 false⟩,
                 ⟨some 47, none, .mv (.t 12)⟩,
                 ⟨some 48, none, .fa (.t 14) 0⟩,
                 ⟨some 49, none, .load (.t 48) 1 false⟩,
                 ⟨some 50, none, .fa (.t 14) 0⟩,
                 ⟨some 51, none, .load (.t 50) 1 false⟩,
                 ⟨some 52, none, .idxA (.t 44) (.t 46) 1⟩,
                 ⟨none, none, .store (.t 52) (.t 51) 1⟩,
                 ⟨some 53, none, .idxA (.t 47) (.t 49) 1⟩,
                 ⟨none, none, .store (.t 53) (.c (.bool true)) 1⟩])))
             (.reg [⟨some 54, none, .bin .add .num (.t 40) (.c (.int .i64 1))⟩,
               ⟨some 40, none, .mv (.t 54)⟩]))))))))
       (.seq
        (.reg [⟨some 15, none, .mv (.c (.nils))⟩])
        (.seq
         (.seq
          (.reg [⟨some 55, none, .mv (.t 12)⟩,
            ⟨some 56, none, .len false (.t 55)⟩,
            ⟨some 57, none, .mv (.c (.int .i64 0))⟩])
          (.block 4
           (.own 15 .int (.sub (.s 15) 15) (.loop (.keep [10, 15, 55, 56, 57] [.s 26, .s 37, (.sub (.s 15) 15)]
            (.seq
             (.own 15 .int (.sub (.s 15) 16) (.reg [⟨some 58, none, .bin .lss .num (.t 57) (.t 56)⟩]))
             (.seq
              (.cond 58
               .skip
               (.exit 4))
              (.seq
               (.block 5
                (.seq
                 (.reg [⟨some 59, none, .mv (.t 57)⟩,
                   ⟨some 60, none, .idxA (.t 55) (.t 57) 1⟩,
                   ⟨some 61, none, .load (.t 60) 1 false⟩,
                   ⟨some 16, none, .mv (.t 59)⟩,
                   ⟨some 17, none, .mv (.t 61)⟩])
                 (.seq
                  (.reg [⟨some 62, none, .mv (.t 17)⟩,
                    ⟨some 63, none, .un .not (.t 62)⟩])
                  (.cond 63
                   (.reg [⟨some 64, none, .mv (.t 15)⟩,
                     ⟨some 65, none, .mv (.t 16)⟩,
                     ⟨some 66, none, .bsl .int [(.t 65)]⟩,
                     ⟨some 67, none, .app 67 .int 68719476736 (.t 64) (.t 66)⟩,
                     ⟨some 15, none, .mv (.t 67)⟩])
                   .skip))))
               (.keep [10, 15, 55, 56, 57] [.s 26, .s 37, (.sub (.s 15) 16), .s 67] (.own 15 .int (.sub (.s 15) 15) (.reg [⟨some 68, none, .bin .add .num (.t 57) (.c (.int .i64 1))⟩,
                 ⟨some 57, none, .mv (.t 68)⟩])))))))))))
         (.seq
          (.fz 10 0 (.fz 15 0 (.reg [⟨some 69, none, .mv (.t 10)⟩,
            ⟨some 70, none, .mv (.t 15)⟩,
            ⟨some 6, none, .mv (.t 69)⟩,
            ⟨some 7, none, .mv (.t 70)⟩,
            ⟨some 8, none, .mv (.c (.int .i64 0))⟩])))
          .ret)))))))))⟩

/-- align.Invert -/
def ir18 : Fn TT := ⟨24, [.t 2],
 (.seq
  (.reg [⟨some 2, none, .mv (.c (.nils))⟩])
  (.seq
   (.reg [⟨some 3, none, .mv (.c (.nils))⟩])
   (.seq
    (.seq
     (.reg [⟨some 6, none, .mv (.t 0)⟩,
       ⟨some 7, none, .len false (.t 6)⟩,
       ⟨some 8, none, .mv (.c (.int .i64 0))⟩])
     (.block 0
      (.own 3 .pair (.sub (.s 3) 3) (.loop (.keep [3, 6, 7, 8] [(.sub (.s 3) 3)]
       (.seq
        (.reg [⟨some 9, none, .bin .lss .num (.t 8) (.t 7)⟩])
        (.seq
         (.cond 9
          .skip
          (.exit 0))
         (.seq
          (.block 1
           (.seq
            (.reg [⟨some 10, none, .idxA (.t 6) (.t 8) 2⟩,
              ⟨some 11, none, .load (.t 10) 2 true⟩,
              ⟨some 5, none, .alloc 5 [.int .i64 0, .int .i64 0]⟩,
              ⟨none, none, .store (.t 5) (.t 11) 2⟩])
            (.reg [⟨some 12, none, .mv (.t 3)⟩,
              ⟨some 13, none, .fa (.t 5) 1⟩,
              ⟨some 14, none, .load (.t 13) 1 false⟩,
              ⟨some 15, none, .fa (.t 5) 0⟩,
              ⟨some 16, none, .load (.t 15) 1 false⟩,
              ⟨some 17, none, .build [.int .i64 0, .int .i64 0] [((0, 1), (.t 14)), ((1, 1), (.t 16))]⟩,
              ⟨some 18, none, .bsl .pair [(.t 17)]⟩,
              ⟨some 19, none, .app 19 .pair 68719476736 (.t 12) (.t 18)⟩,
              ⟨some 3, none, .mv (.t 19)⟩])))
          (.keep [3, 6, 7, 8] [.s 19] (.own 3 .pair (.sub (.s 3) 3) (.reg [⟨some 20, none, .bin .add .num (.t 8) (.c (.int .i64 1))⟩,
            ⟨some 8, none, .mv (.t 20)⟩])))))))))))
    (.seq
     (.reg [⟨some 21, none, .mv (.t 3)⟩,
       ⟨some 22, none, .call 22 36 [(.t 21), (.c (.fn 37 []))]⟩])
     (.seq
      (.fz 3 0 (.reg [⟨some 23, none, .mv (.t 3)⟩,
        ⟨some 2, none, .mv (.t 23)⟩]))
      .ret)))))⟩

/-- align.Invert$1 -/
def ir37 : Fn TT := ⟨10, [.t 4],
 (.seq
  (.reg [⟨some 2, none, .box 2 (.t 0)⟩,
    ⟨some 3, none, .box 3 (.t 1)⟩,
    ⟨some 4, none, .mv (.c (.int .i64 0))⟩])
  (.seq
   (.reg [⟨some 5, none, .fa (.t 2) 1⟩,
     ⟨some 6, none, .load (.t 5) 1 false⟩,
     ⟨some 7, none, .fa (.t 3) 1⟩,
     ⟨some 8, none, .load (.t 7) 1 false⟩,
     ⟨some 9, none, .call 9 38 [(.t 6), (.t 8)]⟩,
     ⟨some 4, none, .mv (.t 9)⟩])
   .ret))⟩

/-- slices.SortStableFunc[[]align.Pair,align.Pair] -/
def ir36 : Fn TT := ⟨9, [],
 (.reg [⟨some 4, none, .mv (.t 0)⟩,
   ⟨some 5, none, .mv (.t 0)⟩,
   ⟨some 6, none, .len false (.t 5)⟩,
   ⟨some 7, none, .mv (.t 1)⟩,
   ⟨some 8, none, .call 8 58 [(.t 4), (.t 6), (.t 7)]⟩])⟩

/-- slices.stableCmpFunc[align.Pair] -/
def ir58 : Fn TT := ⟨63, [],
 (.seq
  (.reg [⟨some 6, none, .mv (.c (.int .i64 20))⟩])
  (.seq
   (.reg [⟨some 10, none, .mv (.t 6)⟩,
     ⟨some 7, none, .mv (.c (.int .i64 0))⟩,
     ⟨some 8, none, .mv (.t 10)⟩])
   (.seq
    (.block 0
     (.loop (.keep [0, 1, 2, 6, 7, 8] [.x 0]
      (.seq
       (.seq
        (.reg [⟨some 11, none, .mv (.t 8)⟩,
          ⟨some 12, none, .mv (.t 1)⟩,
          ⟨some 13, none, .bin .leq .num (.t 11) (.t 12)⟩])
        (.cond 13
         .skip
         (.exit 0)))
       (.block 1
        (.seq
         (.reg [⟨some 14, none, .mv (.t 0)⟩,
           ⟨some 15, none, .mv (.t 7)⟩,
           ⟨some 16, none, .mv (.t 8)⟩,
           ⟨some 17, none, .mv (.t 2)⟩,
           ⟨some 18, none, .call 18 80 [(.t 14), (.t 15), (.t 16), (.t 17)]⟩])
         (.seq
          (.reg [⟨some 19, none, .mv (.t 8)⟩,
            ⟨some 7, none, .mv (.t 19)⟩])
          (.reg [⟨some 20, none, .mv (.t 8)⟩,
            ⟨some 21, none, .mv (.t 6)⟩,
            ⟨some 22, none, .bin .add .num (.t 20) (.t 21)⟩,
            ⟨some 8, none, .mv (.t 22)⟩]))))))))
    (.seq
     (.reg [⟨some 23, none, .mv (.t 0)⟩,
       ⟨some 24, none, .mv (.t 7)⟩,
       ⟨some 25, none, .mv (.t 1)⟩,
       ⟨some 26, none, .mv (.t 2)⟩,
       ⟨some 27, none, .call 27 80 [(.t 23), (.t 24), (.t 25), (.t 26)]⟩])
     (.block 2
      (.loop (.keep [0, 1, 2, 6] [.x 0]
       (.seq
        (.seq
         (.reg [⟨some 28, none, .mv (.t 6)⟩,
           ⟨some 29, none, .mv (.t 1)⟩,
           ⟨some 30, none, .bin .lss .num (.t 28) (.t 29)⟩])
         (.cond 30
          .skip
          (.exit 2)))
        (.block 3
         (.seq
          (.reg [⟨some 31, none, .mv (.t 6)⟩,
            ⟨some 32, none, .bin .mul .num (.c (.int .i64 2)) (.t 31)⟩,
            ⟨some 7, none, .mv (.c (.int .i64 0))⟩,
            ⟨some 8, none, .mv (.t 32)⟩])
          (.seq
           (.block 4
            (.loop (.keep [0, 1, 2, 6, 7, 8] [.x 0]
             (.seq
              (.seq
               (.reg [⟨some 33, none, .mv (.t 8)⟩,
                 ⟨some 34, none, .mv (.t 1)⟩,
                 ⟨some 35, none, .bin .leq .num (.t 33) (.t 34)⟩])
               (.cond 35
                .skip
                (.exit 4)))
              (.block 5
               (.seq
                (.reg [⟨some 36, none, .mv (.t 0)⟩,
                  ⟨some 37, none, .mv (.t 7)⟩,
                  ⟨some 38, none, .mv (.t 7)⟩,
                  ⟨some 39, none, .mv (.t 6)⟩,
                  ⟨some 40, none, .bin .add .num (.t 38) (.t 39)⟩,
                  ⟨some 41, none, .mv (.t 8)⟩,
                  ⟨some 42, none, .mv (.t 2)⟩,
                  ⟨some 43, none, .call 43 81 [(.t 36), (.t 37), (.t 40), (.t 41), (.t 42)]⟩])
                (.seq
                 (.reg [⟨some 44, none, .mv (.t 8)⟩,
                   ⟨some 7, none, .mv (.t 44)⟩])
                 (.reg [⟨some 45, none, .mv (.t 8)⟩,
                   ⟨some 46, none, .mv (.t 6)⟩,
                   ⟨some 47, none, .bin .mul .num (.c (.int .i64 2)) (.t 46)⟩,
                   ⟨some 48, none, .bin .add .num (.t 45) (.t 47)⟩,
                   ⟨some 8, none, .mv (.t 48)⟩]))))))))
           (.seq
            (.seq
             (.reg [⟨some 49, none, .mv (.t 7)⟩,
               ⟨some 50, none, .mv (.t 6)⟩,
               ⟨some 51, none, .bin .add .num (.t 49) (.t 50)⟩,
               ⟨some 9, none, .mv (.t 51)⟩])
             (.seq
              (.reg [⟨some 52, none, .mv (.t 9)⟩,
                ⟨some 53, none, .mv (.t 1)⟩,
                ⟨some 54, none, .bin .lss .num (.t 52) (.t 53)⟩])
              (.cond 54
               (.reg [⟨some 55, none, .mv (.t 0)⟩,
                 ⟨some 56, none, .mv (.t 7)⟩,
                 ⟨some 57, none, .mv (.t 9)⟩,
                 ⟨some 58, none, .mv (.t 1)⟩,
                 ⟨some 59, none, .mv (.t 2)⟩,
                 ⟨some 60, none, .call 60 81 [(.t 55), (.t 56), (.t 57), (.t 58), (.t 59)]⟩])
               .skip)))
            (.reg [⟨some 61, none, .mv (.t 6)⟩,
              ⟨some 62, none, .bin .mul .num (.t 61) (.c (.int .i64 2))⟩,
              ⟨some 6, none, .mv (.t 62)⟩])))))))))))))⟩

/-- slices.insertionSortCmpFunc[align.Pair] -/
def ir80 : Fn TT := ⟨53, [],
 (.seq
  (.reg [⟨some 10, none, .mv (.t 1)⟩,
    ⟨some 11, none, .bin .add .num (.t 10) (.c (.int .i64 1))⟩,
    ⟨some 8, none, .mv (.t 11)⟩])
  (.block 0
   (.loop (.keep [0, 1, 2, 3, 8] [.x 0]
    (.seq
     (.seq
      (.reg [⟨some 12, none, .mv (.t 8)⟩,
        ⟨some 13, none, .mv (.t 2)⟩,
        ⟨some 14, none, .bin .lss .num (.t 12) (.t 13)⟩])
      (.cond 14
       .skip
       (.exit 0)))
     (.seq
      (.block 1
       (.seq
        (.reg [⟨some 17, none, .mv (.t 8)⟩,
          ⟨some 9, none, .mv (.t 17)⟩])
        (.block 2
         (.loop (.keep [0, 1, 2, 3, 8, 9] [.x 0]
          (.seq
           (.seq
            (.drw [] (ol [0, 1, 2, 3, 4, 5, 6, 7, 8, 9, 10, 11, 12, 13, 14, 15, 16]) [] [0, 1, 2, 3, 4, 5, 6, 7, 8, 9, 10, 11, 12, 13, 15, 16] [⟨some 18, none, .mv (.t 9)⟩,
              ⟨some 19, none, .mv (.t 1)⟩,
              ⟨some 20, none, .bin .gtr .num (.t 18) (.t 19)⟩,
              ⟨some 21, none, .mv (.t 20)⟩,
              ⟨some 22, (some (21, true)), .mv (.t 3)⟩,
              ⟨some 23, (some (21, true)), .mv (.t 0)⟩,
              ⟨some 24, (some (21, true)), .mv (.t 9)⟩,
              ⟨some 25, (some (21, true)), .idxA (.t 23) (.t 24) 2⟩,
              ⟨some 26, (some (21, true)), .load (.t 25) 2 true⟩,
              ⟨some 27, (some (21, true)), .mv (.t 0)⟩,
              ⟨some 28, (some (21, true)), .mv (.t 9)⟩,
              ⟨some 29, (some (21, true)), .bin .sub .num (.t 28) (.c (.int .i64 1))⟩,
              ⟨some 30, (some (21, true)), .idxA (.t 27) (.t 29) 2⟩,
              ⟨some 31, (some (21, true)), .load (.t 30) 2 true⟩,
              ⟨some 32, (some (21, true)), .callv 32 (.t 22) [(.t 26), (.t 31)]⟩,
              ⟨some 33, (some (21, true)), .bin .lss .num (.t 32) (.c (.int .i64 0))⟩,
              ⟨some 34, none, .pick (.t 21) (.t 33) (.c (.bool false))⟩])
            (.cond 34
             .skip
             (.exit 2)))
           (.seq
            (.block 3
             (.drw [] (ol [0, 1, 2, 3, 4, 5, 6, 7, 8, 9, 10, 11, 12, 13, 14, 15, 16, 17]) [15, 17] [0, 1, 2, 3, 4, 5, 6, 7, 8, 9, 10, 11, 12, 13, 14, 16] [⟨some 37, none, .mv (.t 0)⟩,
               ⟨some 38, none, .mv (.t 9)⟩,
               ⟨some 39, none, .mv (.t 0)⟩,
               ⟨some 40, none, .mv (.t 9)⟩,
               ⟨some 41, none, .bin .sub .num (.t 40) (.c (.int .i64 1))⟩,
               ⟨some 42, none, .mv (.t 0)⟩,
               ⟨some 43, none, .mv (.t 9)⟩,
               ⟨some 44, none, .bin .sub .num (.t 43) (.c (.int .i64 1))⟩,
               ⟨some 45, none, .idxA (.t 42) (.t 44) 2⟩,
               ⟨some 46, none, .load (.t 45) 2 true⟩,
               ⟨some 47, none, .mv (.t 0)⟩,
               ⟨some 48, none, .mv (.t 9)⟩,
               ⟨some 49, none, .idxA (.t 47) (.t 48) 2⟩,
               ⟨some 50, none, .load (.t 49) 2 true⟩,
               ⟨some 51, none, .idxA (.t 37) (.t 38) 2⟩,
               ⟨none, none, .store (.t 51) (.t 46) 2⟩,
               ⟨some 52, none, .idxA (.t 39) (.t 41) 2⟩,
               ⟨none, none, .store (.t 52) (.t 50) 2⟩]))
            (.reg [⟨some 35, none, .mv (.t 9)⟩,
              ⟨some 36, none, .bin .sub .num (.t 35) (.c (.int .i64 1))⟩,
              ⟨some 9, none, .mv (.t 36)⟩]))))))))
      (.reg [⟨some 15, none, .mv (.t 8)⟩,
        ⟨some 16, none, .bin .add .num (.t 15) (.c (.int .i64 1))⟩,
        ⟨some 8, none, .mv (.t 16)⟩])))))))⟩

/-- align.Compose -/
def ir19 : Fn TT := ⟨38, [.t 4],
 (.seq
  (.reg [⟨some 4, none, .mv (.c (.nils))⟩])
  (.seq
   (.reg [⟨some 5, none, .mv (.c (.nils))⟩])
   (.seq
    (.seq
     (.reg [⟨some 10, none, .mv (.t 1)⟩,
       ⟨some 11, none, .len false (.t 10)⟩,
       ⟨some 12, none, .mv (.c (.int .i64 0))⟩])
     (.block 0
      (.own 5 .pair (.sub (.s 5) 5) (.loop (.keep [0, 5, 10, 11, 12] [(.sub (.s 5) 5)]
       (.seq
        (.reg [⟨some 13, none, .bin .lss .num (.t 12) (.t 11)⟩])
        (.seq
         (.cond 13
          .skip
          (.exit 0))
         (.seq
          (.block 1
           (.seq
            (.reg [⟨some 14, none, .idxA (.t 10) (.t 12) 2⟩,
              ⟨some 15, none, .load (.t 14) 2 true⟩,
              ⟨some 7, none, .alloc 7 [.int .i64 0, .int .i64 0]⟩,
              ⟨none, none, .store (.t 7) (.t 15) 2⟩])
            (.seq
             (.reg [⟨some 16, none, .mv (.t 0)⟩,
               ⟨some 17, none, .len false (.t 16)⟩,
               ⟨some 18, none, .mv (.c (.int .i64 0))⟩])
             (.block 2
              (.loop (.keep [0, 5, 7, 10, 11, 12, 16, 17, 18] [.s 7, (.sub (.s 5) 5)]
               (.seq
                (.reg [⟨some 19, none, .bin .lss .num (.t 18) (.t 17)⟩])
                (.seq
                 (.cond 19
                  .skip
                  (.exit 2))
                 (.seq
                  (.block 3
                   (.seq
                    (.reg [⟨some 20, none, .idxA (.t 16) (.t 18) 2⟩,
                      ⟨some 21, none, .load (.t 20) 2 true⟩,
                      ⟨some 9, none, .alloc 9 [.int .i64 0, .int .i64 0]⟩,
                      ⟨none, none, .store (.t 9) (.t 21) 2⟩])
                    (.seq
                     (.reg [⟨some 22, none, .fa (.t 9) 1⟩,
                       ⟨some 23, none, .load (.t 22) 1 false⟩,
                       ⟨some 24, none, .fa (.t 7) 0⟩,
                       ⟨some 25, none, .load (.t 24) 1 false⟩,
                       ⟨some 26, none, .bin .eql .num (.t 23) (.t 25)⟩])
                     (.cond 26
                      (.seq
                       (.reg [⟨some 27, none, .mv (.t 5)⟩,
                         ⟨some 28, none, .fa (.t 9) 0⟩,
                         ⟨some 29, none, .load (.t 28) 1 false⟩,
                         ⟨some 30, none, .fa (.t 7) 1⟩,
                         ⟨some 31, none, .load (.t 30) 1 false⟩,
                         ⟨some 32, none, .build [.int .i64 0, .int .i64 0] [((0, 1), (.t 29)), ((1, 1), (.t 31))]⟩,
                         ⟨some 33, none, .bsl .pair [(.t 32)]⟩,
                         ⟨some 34, none, .app 34 .pair 68719476736 (.t 27) (.t 33)⟩,
                         ⟨some 5, none, .mv (.t 34)⟩])
                       (.keep [0, 5, 10, 11, 12] [.s 34] (.own 5 .pair (.sub (.s 5) 5) (.exit 2))))
                      .skip))))
                  (.reg [⟨some 35, none, .bin .add .num (.t 18) (.c (.int .i64 1))⟩,
                    ⟨some 18, none, .mv (.t 35)⟩]))))))))))
          (.reg [⟨some 36, none, .bin .add .num (.t 12) (.c (.int .i64 1))⟩,
            ⟨some 12, none, .mv (.t 36)⟩])))))))))
    (.seq
     (.fz 5 0 (.reg [⟨some 37, none, .mv (.t 5)⟩,
       ⟨some 4, none, .mv (.t 37)⟩]))
     .ret))))⟩

/-- slices.Equal[[]align.Pair,align.Pair] -/
def ir20 : Fn TT := ⟨26, [.t 4],
 (.seq
  (.reg [⟨some 4, none, .mv (.c (.bool false))⟩])
  (.seq
   (.seq
    (.reg [⟨some 6, none, .mv (.t 0)⟩,
      ⟨some 7, none, .len false (.t 6)⟩,
      ⟨some 8, none, .mv (.t 1)⟩,
      ⟨some 9, none, .len false (.t 8)⟩,
      ⟨some 10, none, .bin .neq .num (.t 7) (.t 9)⟩])
    (.cond 10
     (.seq
      (.reg [⟨some 4, none, .mv (.c (.bool false))⟩])
      .ret)
     .skip))
   (.seq
    (.seq
     (.reg [⟨some 11, none, .mv (.t 0)⟩,
       ⟨some 12, none, .len false (.t 11)⟩,
       ⟨some 13, none, .mv (.c (.int .i64 0))⟩])
     (.block 0
      (.loop (.keep [0, 1, 12, 13] []
       (.seq
        (.reg [⟨some 14, none, .bin .lss .num (.t 13) (.t 12)⟩])
        (.seq
         (.cond 14
          .skip
          (.exit 0))
         (.seq
          (.block 1
           (.seq
            (.reg [⟨some 15, none, .mv (.t 13)⟩,
              ⟨some 5, none, .mv (.t 15)⟩])
            (.seq
             (.drw [] (ol [0, 1, 2, 3, 4, 5, 6, 7, 8]) [] [0, 1, 2, 3, 4, 5, 6, 7, 8] [⟨some 16, none, .mv (.t 0)⟩,
               ⟨some 17, none, .mv (.t 5)⟩,
               ⟨some 18, none, .idxA (.t 16) (.t 17) 2⟩,
               ⟨some 19, none, .load (.t 18) 2 true⟩,
               ⟨some 20, none, .mv (.t 1)⟩,
               ⟨some 21, none, .mv (.t 5)⟩,
               ⟨some 22, none, .idxA (.t 20) (.t 21) 2⟩,
               ⟨some 23, none, .load (.t 22) 2 true⟩,
               ⟨some 24, none, .bin .neq (.two 2) (.t 19) (.t 23)⟩])
             (.cond 24
              (.seq
               (.reg [⟨some 4, none, .mv (.c (.bool false))⟩])
               .ret)
              .skip))))
          (.reg [⟨some 25, none, .bin .add .num (.t 13) (.c (.int .i64 1))⟩,
            ⟨some 13, none, .mv (.t 25)⟩]))))))))
    (.seq
     (.reg [⟨some 4, none, .mv (.c (.bool true))⟩])
     .ret))))⟩

/-- clapkeep3.AlignKept -/
def ir5 : Fn TT := ⟨129, [.t 4],
 (.seq
  (.reg [⟨some 4, none, .mv (.c (.bool false))⟩])
  (.seq
   (.reg [⟨some 18, none, .mv (.t 0)⟩,
     ⟨some 19, none, .call 19 8 [(.t 18)]⟩,
     ⟨some 20, none, .mv (.t 1)⟩,
     ⟨some 21, none, .call 21 8 [(.t 20)]⟩,
     ⟨some 5, none, .alloc 5 [.int .i64 0, .int .i64 0, .str ⟨#[]⟩, .isl .fld []]⟩,
     ⟨some 6, none, .alloc 6 [.int .i64 0, .int .i64 0, .str ⟨#[]⟩, .isl .fld []]⟩,
     ⟨none, none, .store (.t 5) (.t 19) 4⟩,
     ⟨none, none, .store (.t 6) (.t 21) 4⟩])
   (.seq
    (.reg [⟨some 23, none, .load (.t 5) 4 true⟩,
      ⟨some 24, none, .load (.t 6) 4 true⟩,
      ⟨some 25, none, .call 25 16 [(.t 23), (.t 24), (.c (.str ⟨#[97]⟩))]⟩,
      ⟨some 22, none, .mv (.t 25)⟩,
      ⟨some 26, none, .ext (.t 22) 0⟩,
      ⟨some 27, none, .ext (.t 22) 1⟩,
      ⟨some 7, none, .mv (.t 26)⟩,
      ⟨some 8, none, .mv (.t 27)⟩])
    (.seq
     (.reg [⟨some 29, none, .mv (.t 7)⟩,
       ⟨some 30, none, .fa (.t 5) 3⟩,
       ⟨some 31, none, .load (.t 30) 1 false⟩,
       ⟨some 32, none, .len false (.t 31)⟩,
       ⟨some 33, none, .fa (.t 6) 3⟩,
       ⟨some 34, none, .load (.t 33) 1 false⟩,
       ⟨some 35, none, .len false (.t 34)⟩,
       ⟨some 36, none, .call 36 17 [(.t 29), (.t 32), (.t 35)]⟩,
       ⟨some 28, none, .mv (.t 36)⟩,
       ⟨some 37, none, .ext (.t 28) 0⟩,
       ⟨some 38, none, .ext (.t 28) 1⟩,
       ⟨some 39, none, .ext (.t 28) 2⟩,
       ⟨some 9, none, .mv (.t 37)⟩,
       ⟨some 10, none, .mv (.t 38)⟩,
       ⟨some 11, none, .mv (.t 39)⟩])
     (.seq
      (.seq
       (.reg [⟨some 40, none, .call 40 10 []⟩,
         ⟨some 41, none, .un .not (.t 40)⟩,
         ⟨some 42, none, .mv (.t 41)⟩,
         ⟨some 43, (some (42, false)), .mv (.t 8)⟩,
         ⟨some 44, (some (42, false)), .bin .neq .num (.t 43) (.c (.int .i64 0))⟩,
         ⟨some 45, none, .pick (.t 42) (.c (.bool true)) (.t 44)⟩,
         ⟨some 46, none, .mv (.t 45)⟩,
         ⟨some 47, (some (46, false)), .mv (.t 11)⟩,
         ⟨some 48, (some (46, false)), .bin .neq .num (.t 47) (.c (.int .i64 0))⟩,
         ⟨some 49, none, .pick (.t 46) (.c (.bool true)) (.t 48)⟩,
         ⟨some 50, none, .mv (.t 49)⟩,
         ⟨some 51, (some (50, false)), .mv (.t 9)⟩,
         ⟨some 52, (some (50, false)), .len false (.t 51)⟩,
         ⟨some 53, (some (50, false)), .fa (.t 6) 3⟩,
         ⟨some 54, (some (50, false)), .load (.t 53) 1 false⟩,
         ⟨some 55, (some (50, false)), .len false (.t 54)⟩,
         ⟨some 56, (some (50, false)), .bin .neq .num (.t 52) (.t 55)⟩,
         ⟨some 57, none, .pick (.t 50) (.c (.bool true)) (.t 56)⟩,
         ⟨some 58, none, .mv (.t 57)⟩,
         ⟨some 59, (some (58, false)), .mv (.t 10)⟩,
         ⟨some 60, (some (58, false)), .len false (.t 59)⟩,
         ⟨some 61, (some (58, false)), .mv (.t 7)⟩,
         ⟨some 62, (some (58, false)), .len false (.t 61)⟩,
         ⟨some 63, (some (58, false)), .bin .add .num (.t 60) (.t 62)⟩,
         ⟨some 64, (some (58, false)), .fa (.t 5) 3⟩,
         ⟨some 65, (some (58, false)), .load (.t 64) 1 false⟩,
         ⟨some 66, (some (58, false)), .len false (.t 65)⟩,
         ⟨some 67, (some (58, false)), .bin .neq .num (.t 63) (.t 66)⟩,
         ⟨some 68, none, .pick (.t 58) (.c (.bool true)) (.t 67)⟩])
       (.cond 68
        (.seq
         (.reg [⟨some 4, none, .mv (.c (.bool false))⟩])
         .ret)
        .skip))
      (.seq
       (.seq
        (.reg [⟨some 69, none, .mv (.t 7)⟩,
          ⟨some 70, none, .len false (.t 69)⟩,
          ⟨some 71, none, .mv (.c (.int .i64 0))⟩])
        (.block 0
         (.loop (.keep [7, 9, 69, 70, 71] []
          (.seq
           (.reg [⟨some 72, none, .bin .lss .num (.t 71) (.t 70)⟩])
           (.seq
            (.cond 72
             .skip
             (.exit 0))
            (.seq
             (.block 1
              (.seq
               (.reg [⟨some 73, none, .idxA (.t 69) (.t 71) 2⟩,
                 ⟨some 74, none, .load (.t 73) 2 true⟩,
                 ⟨some 13, none, .alloc 13 [.int .i64 0, .int .i64 0]⟩,
                 ⟨none, none, .store (.t 13) (.t 74) 2⟩])
               (.seq
                (.drw [] (ol [0, 1, 2, 3, 4, 5, 6, 7]) [] [0, 1, 2, 3, 4, 5, 6, 7] [⟨some 75, none, .mv (.t 9)⟩,
                  ⟨some 76, none, .fa (.t 13) 1⟩,
                  ⟨some 77, none, .load (.t 76) 1 false⟩,
                  ⟨some 78, none, .idxA (.t 75) (.t 77) 1⟩,
                  ⟨some 79, none, .load (.t 78) 1 false⟩,
                  ⟨some 80, none, .fa (.t 13) 0⟩,
                  ⟨some 81, none, .load (.t 80) 1 false⟩,
                  ⟨some 82, none, .bin .neq .num (.t 79) (.t 81)⟩])
                (.cond 82
                 (.seq
                  (.reg [⟨some 4, none, .mv (.c (.bool false))⟩])
                  .ret)
                 .skip))))
             (.reg [⟨some 83, none, .bin .add .num (.t 71) (.c (.int .i64 1))⟩,
               ⟨some 71, none, .mv (.t 83)⟩]))))))))
       (.seq
        (.reg [⟨some 84, none, .mv (.t 7)⟩,
          ⟨some 85, none, .call 85 18 [(.t 84)]⟩,
          ⟨some 86, none, .call 86 18 [(.t 85)]⟩,
          ⟨some 14, none, .mv (.t 86)⟩])
        (.seq
         (.reg [⟨some 87, none, .mv (.t 7)⟩,
           ⟨some 88, none, .mv (.t 7)⟩,
           ⟨some 89, none, .call 89 18 [(.t 88)]⟩,
           ⟨some 90, none, .call 90 19 [(.t 87), (.t 89)]⟩,
           ⟨some 15, none, .mv (.t 90)⟩])
         (.seq
          (.seq
           (.reg [⟨some 91, none, .mv (.t 15)⟩,
             ⟨some 92, none, .len false (.t 91)⟩,
             ⟨some 93, none, .mv (.c (.int .i64 0))⟩])
           (.block 2
            (.loop (.keep [7, 14, 15, 91, 92, 93] []
             (.seq
              (.reg [⟨some 94, none, .bin .lss .num (.t 93) (.t 92)⟩])
              (.seq
               (.cond 94
                .skip
                (.exit 2))
               (.seq
                (.block 3
                 (.seq
                  (.reg [⟨some 95, none, .mv (.t 93)⟩,
                    ⟨some 96, none, .idxA (.t 91) (.t 93) 2⟩,
                    ⟨some 97, none, .load (.t 96) 2 true⟩,
                    ⟨some 17, none, .alloc 17 [.int .i64 0, .int .i64 0]⟩,
                    ⟨some 16, none, .mv (.t 95)⟩,
                    ⟨none, none, .store (.t 17) (.t 97) 2⟩])
                  (.seq
                   (.drw [] (ol [0, 1, 2, 3, 4, 5, 6, 7, 8, 9, 10, 11, 12, 13, 14, 15, 16, 17, 18, 19]) [] [0, 1, 2, 3, 4, 5, 6, 7, 8, 9, 10, 11, 12, 13, 14, 15, 16, 17, 18, 19] [⟨some 98, none, .fa (.t 17) 0⟩,
                     ⟨some 99, none, .load (.t 98) 1 false⟩,
                     ⟨some 100, none, .fa (.t 17) 1⟩,
                     ⟨some 101, none, .load (.t 100) 1 false⟩,
                     ⟨some 102, none, .bin .neq .num (.t 99) (.t 101)⟩,
                     ⟨some 103, none, .mv (.t 102)⟩,
                     ⟨some 104, (some (103, false)), .mv (.t 16)⟩,
                     ⟨some 105, (some (103, false)), .bin .gtr .num (.t 104) (.c (.int .i64 0))⟩,
                     ⟨some 106, (some (103, false)), .mv (.t 105)⟩,
                     ⟨some 107, (some (106, true)), .mv (.t 15)⟩,
                     ⟨some 108, (some (106, true)), .mv (.t 16)⟩,
                     ⟨some 109, (some (106, true)), .bin .sub .num (.t 108) (.c (.int .i64 1))⟩,
                     ⟨some 110, (some (106, true)), .idxA (.t 107) (.t 109) 2⟩,
                     ⟨some 111, (some (106, true)), .fa (.t 110) 0⟩,
                     ⟨some 112, (some (106, true)), .load (.t 111) 1 false⟩,
                     ⟨some 113, (some (106, true)), .fa (.t 17) 0⟩,
                     ⟨some 114, (some (106, true)), .load (.t 113) 1 false⟩,
                     ⟨some 115, (some (106, true)), .bin .geq .num (.t 112) (.t 114)⟩,
                     ⟨some 116, (some (103, false)), .pick (.t 106) (.t 115) (.c (.bool false))⟩,
                     ⟨some 117, none, .pick (.t 103) (.c (.bool true)) (.t 116)⟩])
                   (.cond 117
                    (.seq
                     (.reg [⟨some 4, none, .mv (.c (.bool false))⟩])
                     .ret)
                    .skip))))
                (.reg [⟨some 118, none, .bin .add .num (.t 93) (.c (.int .i64 1))⟩,
                  ⟨some 93, none, .mv (.t 118)⟩]))))))))
          (.seq
           (.reg [⟨some 119, none, .mv (.t 14)⟩,
             ⟨some 120, none, .mv (.t 7)⟩,
             ⟨some 121, none, .call 121 20 [(.t 119), (.t 120)]⟩,
             ⟨some 122, none, .mv (.t 121)⟩,
             ⟨some 123, (some (122, true)), .mv (.t 15)⟩,
             ⟨some 124, (some (122, true)), .len false (.t 123)⟩,
             ⟨some 125, (some (122, true)), .mv (.t 7)⟩,
             ⟨some 126, (some (122, true)), .len false (.t 125)⟩,
             ⟨some 127, (some (122, true)), .bin .eql .num (.t 124) (.t 126)⟩,
             ⟨some 128, none, .pick (.t 122) (.t 127) (.c (.bool false))⟩,
             ⟨some 4, none, .mv (.t 128)⟩])
           .ret))))))))))⟩

end Go.Clap
