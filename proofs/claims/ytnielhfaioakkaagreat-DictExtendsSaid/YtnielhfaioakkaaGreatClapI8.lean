/- PRINTED by mkirz.py: the small code of the loaded functions. -/
import Derived.Test.YtnielhfaioakkaaGreatClapV27
namespace Go.Clap

/-- slices.Clone[dict.Pairs,[2]api.Value] -/
def ir337 : Fn TT := ⟨8, [.t 2],
 (.seq
  (.reg [⟨some 2, none, .mv (.c (.nils))⟩])
  (.seq
   (.seq
    (.reg [⟨some 3, none, .mv (.t 0)⟩,
      ⟨some 4, none, .bin .eql .slice (.t 3) (.c (.nils))⟩])
    (.cond 4
     (.seq
      (.reg [⟨some 2, none, .mv (.c (.nils))⟩])
      .ret)
     .skip))
   (.seq
    (.reg [⟨some 5, none, .bslice 5 .two []⟩,
      ⟨some 6, none, .mv (.t 0)⟩,
      ⟨some 7, none, .app 7 .two 68719476736 (.t 5) (.t 6)⟩,
      ⟨some 2, none, .mv (.t 7)⟩])
    .ret)))⟩

/-- dict.Clashes -/
def ir318 : Fn TT := ⟨53, [.t 4, .t 5],
 (.seq
  (.reg [⟨some 4, none, .mv (.c (.nils))⟩,
    ⟨some 5, none, .mv (.c (.int .i64 0))⟩])
  (.seq
   (.seq
    (.reg [⟨some 12, none, .mv (.t 0)⟩,
      ⟨some 13, none, .mv (.t 1)⟩,
      ⟨some 14, none, .bsl .vpairs [(.t 12), (.t 13)]⟩,
      ⟨some 15, none, .len false (.t 14)⟩,
      ⟨some 16, none, .mv (.c (.int .i64 0))⟩])
    (.block 0
     (.loop (.keep [0, 1, 14, 15, 16] []
      (.seq
       (.reg [⟨some 17, none, .bin .lss .num (.t 16) (.t 15)⟩])
       (.seq
        (.cond 17
         .skip
         (.exit 0))
        (.seq
         (.block 1
          (.seq
           (.reg [⟨some 18, none, .idxA (.t 14) (.t 16) 1⟩,
             ⟨some 19, none, .load (.t 18) 1 false⟩,
             ⟨some 7, none, .mv (.t 19)⟩])
           (.seq
            (.reg [⟨some 20, none, .mv (.t 7)⟩,
              ⟨some 21, none, .call 21 46 [(.t 20)]⟩,
              ⟨some 8, none, .mv (.t 21)⟩])
            (.seq
             (.reg [⟨some 22, none, .mv (.t 8)⟩,
               ⟨some 23, none, .bin .neq .num (.t 22) (.c (.int .i64 0))⟩])
             (.cond 23
              (.seq
               (.reg [⟨some 24, none, .mv (.t 8)⟩,
                 ⟨some 4, none, .mv (.c (.nils))⟩,
                 ⟨some 5, none, .mv (.t 24)⟩])
               .ret)
              .skip)))))
         (.reg [⟨some 25, none, .bin .add .num (.t 16) (.c (.int .i64 1))⟩,
           ⟨some 16, none, .mv (.t 25)⟩]))))))))
   (.seq
    (.reg [⟨some 9, none, .mv (.c (.nils))⟩])
    (.seq
     (.seq
      (.reg [⟨some 26, none, .mv (.t 1)⟩,
        ⟨some 27, none, .len false (.t 26)⟩,
        ⟨some 28, none, .mv (.c (.int .i64 0))⟩])
      (.block 2
       (.loop (.keep [0, 9, 26, 27, 28] []
        (.seq
         (.reg [⟨some 29, none, .bin .lss .num (.t 28) (.t 27)⟩])
         (.seq
          (.cond 29
           .skip
           (.exit 2))
          (.seq
           (.block 3
            (.seq
             (.reg [⟨some 30, none, .idxA (.t 26) (.t 28) 8⟩,
               ⟨some 31, none, .load (.t 30) 8 true⟩,
               ⟨some 11, none, .alloc 11 [.int .i64 0, .int .i64 0, .str ⟨#[]⟩, .isl .fld [], .int .i64 0, .int .i64 0, .str ⟨#[]⟩, .isl .fld []]⟩,
               ⟨none, none, .store (.t 11) (.t 31) 8⟩])
             (.seq
              (.drw [] (ol [0, 1, 2, 4, 5, 6, 3, 7, 8]) [] [0, 1, 2, 4, 5, 6, 8] [⟨some 32, none, .mv (.t 0)⟩,
                ⟨some 33, none, .idxArr (.t 11) (.c (.int .i64 0)) 4 2⟩,
                ⟨some 34, none, .load (.t 33) 4 true⟩,
                ⟨some 35, none, .call 35 47 [(.t 32), (.c (.int .i64 0)), (.t 34)]⟩,
                ⟨some 36, none, .mv (.t 0)⟩,
                ⟨some 37, none, .idxArr (.t 11) (.c (.int .i64 1)) 4 2⟩,
                ⟨some 38, none, .load (.t 37) 4 true⟩,
                ⟨some 39, none, .call 39 47 [(.t 36), (.c (.int .i64 1)), (.t 38)]⟩,
                ⟨some 40, none, .bin .neq .num (.t 35) (.t 39)⟩])
              (.cond 40
               (.drw [] (ol [0, 1, 2, 4, 5, 3, 6, 7, 8, 9, 10]) [] [0, 1, 2, 4, 5, 7, 10] [⟨some 41, none, .mv (.t 9)⟩,
                 ⟨some 42, none, .idxArr (.t 11) (.c (.int .i64 0)) 4 2⟩,
                 ⟨some 43, none, .load (.t 42) 4 true⟩,
                 ⟨some 44, none, .call 44 57 [(.t 43)]⟩,
                 ⟨some 45, none, .idxArr (.t 11) (.c (.int .i64 1)) 4 2⟩,
                 ⟨some 46, none, .load (.t 45) 4 true⟩,
                 ⟨some 47, none, .call 47 57 [(.t 46)]⟩,
                 ⟨some 48, none, .build [.int .i64 0, .int .i64 0, .str ⟨#[]⟩, .isl .fld [], .int .i64 0, .int .i64 0, .str ⟨#[]⟩, .isl .fld []] [((0, 4), (.t 44)), ((4, 4), (.t 47))]⟩,
                 ⟨some 49, none, .bsl .two [(.t 48)]⟩,
                 ⟨some 50, none, .app 50 .two 68719476736 (.t 41) (.t 49)⟩,
                 ⟨some 9, none, .mv (.t 50)⟩])
               .skip))))
           (.reg [⟨some 51, none, .bin .add .num (.t 28) (.c (.int .i64 1))⟩,
             ⟨some 28, none, .mv (.t 51)⟩]))))))))
     (.seq
      (.reg [⟨some 52, none, .mv (.t 9)⟩,
        ⟨some 4, none, .mv (.t 52)⟩,
        ⟨some 5, none, .mv (.c (.int .i64 0))⟩])
      .ret)))))⟩

/-- dict.Merge -/
def ir317 : Fn TT := ⟨85, [.t 4, .t 5],
 (.seq
  (.reg [⟨some 4, none, .mv (.c (.nils))⟩,
    ⟨some 5, none, .mv (.c (.int .i64 0))⟩])
  (.seq
   (.seq
    (.reg [⟨some 14, none, .mv (.t 0)⟩,
      ⟨some 15, none, .mv (.t 1)⟩,
      ⟨some 16, none, .bsl .vpairs [(.t 14), (.t 15)]⟩,
      ⟨some 17, none, .len false (.t 16)⟩,
      ⟨some 18, none, .mv (.c (.int .i64 0))⟩])
    (.block 0
     (.loop (.keep [0, 1, 16, 17, 18] []
      (.seq
       (.reg [⟨some 19, none, .bin .lss .num (.t 18) (.t 17)⟩])
       (.seq
        (.cond 19
         .skip
         (.exit 0))
        (.seq
         (.block 1
          (.seq
           (.reg [⟨some 20, none, .idxA (.t 16) (.t 18) 1⟩,
             ⟨some 21, none, .load (.t 20) 1 false⟩,
             ⟨some 7, none, .mv (.t 21)⟩])
           (.seq
            (.reg [⟨some 22, none, .mv (.t 7)⟩,
              ⟨some 23, none, .call 23 46 [(.t 22)]⟩,
              ⟨some 8, none, .mv (.t 23)⟩])
            (.seq
             (.reg [⟨some 24, none, .mv (.t 8)⟩,
               ⟨some 25, none, .bin .neq .num (.t 24) (.c (.int .i64 0))⟩])
             (.cond 25
              (.seq
               (.reg [⟨some 26, none, .mv (.t 8)⟩,
                 ⟨some 4, none, .mv (.c (.nils))⟩,
                 ⟨some 5, none, .mv (.t 26)⟩])
               .ret)
              .skip)))))
         (.reg [⟨some 27, none, .bin .add .num (.t 18) (.c (.int .i64 1))⟩,
           ⟨some 18, none, .mv (.t 27)⟩]))))))))
   (.seq
    (.seq
     (.drw [] (ol [0, 1, 2, 3, 4, 5, 6, 7, 8, 9, 10, 11, 12, 13, 14, 15, 16, 17, 18, 19, 20, 21, 22, 23]) [] [0, 1, 2, 3, 4, 5, 6, 7, 8, 9, 10, 11, 12, 13, 14, 15, 16, 17, 18, 19, 20, 21, 22, 23] [⟨some 28, none, .mv (.t 0)⟩,
       ⟨some 29, none, .idxA (.t 28) (.c (.int .i64 0)) 8⟩,
       ⟨some 30, none, .idxArr (.t 29) (.c (.int .i64 0)) 4 2⟩,
       ⟨some 31, none, .fa (.t 30) 0⟩,
       ⟨some 32, none, .load (.t 31) 1 false⟩,
       ⟨some 33, none, .mv (.t 1)⟩,
       ⟨some 34, none, .idxA (.t 33) (.c (.int .i64 0)) 8⟩,
       ⟨some 35, none, .idxArr (.t 34) (.c (.int .i64 0)) 4 2⟩,
       ⟨some 36, none, .fa (.t 35) 0⟩,
       ⟨some 37, none, .load (.t 36) 1 false⟩,
       ⟨some 38, none, .bin .neq .num (.t 32) (.t 37)⟩,
       ⟨some 39, none, .mv (.t 38)⟩,
       ⟨some 40, (some (39, false)), .mv (.t 0)⟩,
       ⟨some 41, (some (39, false)), .idxA (.t 40) (.c (.int .i64 0)) 8⟩,
       ⟨some 42, (some (39, false)), .idxArr (.t 41) (.c (.int .i64 1)) 4 2⟩,
       ⟨some 43, (some (39, false)), .fa (.t 42) 0⟩,
       ⟨some 44, (some (39, false)), .load (.t 43) 1 false⟩,
       ⟨some 45, (some (39, false)), .mv (.t 1)⟩,
       ⟨some 46, (some (39, false)), .idxA (.t 45) (.c (.int .i64 0)) 8⟩,
       ⟨some 47, (some (39, false)), .idxArr (.t 46) (.c (.int .i64 1)) 4 2⟩,
       ⟨some 48, (some (39, false)), .fa (.t 47) 0⟩,
       ⟨some 49, (some (39, false)), .load (.t 48) 1 false⟩,
       ⟨some 50, (some (39, false)), .bin .neq .num (.t 44) (.t 49)⟩,
       ⟨some 51, none, .pick (.t 39) (.c (.bool true)) (.t 50)⟩])
     (.cond 51
      (.seq
       (.reg [⟨some 4, none, .mv (.c (.nils))⟩,
         ⟨some 5, none, .mv (.c (.int .i64 8))⟩])
       .ret)
      .skip))
    (.seq
     (.reg [⟨some 52, none, .mv (.t 0)⟩,
       ⟨some 53, none, .call 53 337 [(.t 52)]⟩,
       ⟨some 9, none, .mv (.t 53)⟩])
     (.seq
      (.seq
       (.fz 9 0 (.reg [⟨some 54, none, .mv (.t 1)⟩,
         ⟨some 55, none, .len false (.t 54)⟩,
         ⟨some 56, none, .mv (.c (.int .i64 0))⟩]))
       (.block 2
        (.loop (.keep [0, 9, 54, 55, 56] []
         (.seq
          (.reg [⟨some 57, none, .bin .lss .num (.t 56) (.t 55)⟩])
          (.seq
           (.cond 57
            .skip
            (.exit 2))
           (.seq
            (.block 3
             (.seq
              (.reg [⟨some 58, none, .idxA (.t 54) (.t 56) 8⟩,
                ⟨some 59, none, .load (.t 58) 8 true⟩,
                ⟨some 11, none, .alloc 11 [.int .i64 0, .int .i64 0, .str ⟨#[]⟩, .isl .fld [], .int .i64 0, .int .i64 0, .str ⟨#[]⟩, .isl .fld []]⟩,
                ⟨none, none, .store (.t 11) (.t 59) 8⟩])
              (.seq
               (.drw [] (ol [0, 1, 2, 4, 5, 6, 3, 7, 8, 9]) [] [0, 1, 2, 4, 5, 6, 8, 9] [⟨some 60, none, .mv (.t 0)⟩,
                 ⟨some 61, none, .idxArr (.t 11) (.c (.int .i64 0)) 4 2⟩,
                 ⟨some 62, none, .load (.t 61) 4 true⟩,
                 ⟨some 63, none, .call 63 47 [(.t 60), (.c (.int .i64 0)), (.t 62)]⟩,
                 ⟨some 64, none, .mv (.t 0)⟩,
                 ⟨some 65, none, .idxArr (.t 11) (.c (.int .i64 1)) 4 2⟩,
                 ⟨some 66, none, .load (.t 65) 4 true⟩,
                 ⟨some 67, none, .call 67 47 [(.t 64), (.c (.int .i64 1)), (.t 66)]⟩,
                 ⟨some 12, none, .mv (.t 63)⟩,
                 ⟨some 13, none, .mv (.t 67)⟩])
               (.block 4
                (.seq
                 (.reg [⟨some 69, none, .mv (.t 12)⟩,
                   ⟨some 70, none, .mv (.t 13)⟩,
                   ⟨some 71, none, .bin .neq .num (.t 69) (.t 70)⟩,
                   ⟨some 68, none, .mv (.t 71)⟩])
                 (.cond 68
                  (.seq
                   (.reg [⟨some 4, none, .mv (.c (.nils))⟩,
                     ⟨some 5, none, .mv (.c (.int .i64 17))⟩])
                   .ret)
                  (.seq
                   (.reg [⟨some 73, none, .mv (.t 12)⟩,
                     ⟨some 74, none, .bin .lss .num (.t 73) (.c (.int .i64 0))⟩,
                     ⟨some 72, none, .mv (.t 74)⟩])
                   (.cond 72
                    (.reg [⟨some 75, none, .mv (.t 9)⟩,
                      ⟨some 76, none, .load (.t 11) 8 true⟩,
                      ⟨some 77, none, .bsl .two [(.t 76)]⟩,
                      ⟨some 78, none, .app 78 .two 68719476736 (.t 75) (.t 77)⟩,
                      ⟨some 9, none, .mv (.t 78)⟩])
                    .skip))))))))
            (.reg [⟨some 79, none, .bin .add .num (.t 56) (.c (.int .i64 1))⟩,
              ⟨some 56, none, .mv (.t 79)⟩]))))))))
      (.seq
       (.seq
        (.reg [⟨some 80, none, .mv (.t 9)⟩,
          ⟨some 81, none, .len false (.t 80)⟩,
          ⟨some 82, none, .bin .gtr .num (.t 81) (.c (.int .i64 40))⟩])
        (.cond 82
         (.seq
          (.reg [⟨some 4, none, .mv (.c (.nils))⟩,
            ⟨some 5, none, .mv (.c (.int .i64 2))⟩])
          .ret)
         .skip))
       (.seq
        (.reg [⟨some 83, none, .mv (.t 9)⟩,
          ⟨some 84, none, .call 84 48 [(.t 83)]⟩,
          ⟨some 4, none, .mv (.t 84)⟩,
          ⟨some 5, none, .mv (.c (.int .i64 0))⟩])
        .ret)))))))⟩

/-- dict.Complete -/
def ir316 : Fn TT := ⟨144, [.t 6, .t 7],
 (.seq
  (.reg [⟨some 6, none, .mv (.c (.nils))⟩,
    ⟨some 7, none, .mv (.c (.int .i64 0))⟩])
  (.seq
   (.seq
    (.reg [⟨some 18, none, .mv (.t 0)⟩,
      ⟨some 19, none, .call 19 46 [(.t 18)]⟩,
      ⟨some 8, none, .mv (.t 19)⟩])
    (.seq
     (.reg [⟨some 20, none, .mv (.t 8)⟩,
       ⟨some 21, none, .bin .neq .num (.t 20) (.c (.int .i64 0))⟩])
     (.cond 21
      (.seq
       (.reg [⟨some 22, none, .mv (.t 8)⟩,
         ⟨some 6, none, .mv (.c (.nils))⟩,
         ⟨some 7, none, .mv (.t 22)⟩])
       .ret)
      .skip)))
   (.seq
    (.seq
     (.reg [⟨some 23, none, .mv (.t 0)⟩,
       ⟨some 24, none, .idxA (.t 23) (.c (.int .i64 0)) 8⟩,
       ⟨some 25, none, .idxArr (.t 24) (.c (.int .i64 0)) 4 2⟩,
       ⟨some 26, none, .fa (.t 25) 0⟩,
       ⟨some 27, none, .load (.t 26) 1 false⟩,
       ⟨some 28, none, .bin .eql .num (.t 27) (.c (.int .i64 5))⟩,
       ⟨some 29, none, .mv (.t 28)⟩,
       ⟨some 30, (some (29, false)), .mv (.t 0)⟩,
       ⟨some 31, (some (29, false)), .idxA (.t 30) (.c (.int .i64 0)) 8⟩,
       ⟨some 32, (some (29, false)), .idxArr (.t 31) (.c (.int .i64 1)) 4 2⟩,
       ⟨some 33, (some (29, false)), .fa (.t 32) 0⟩,
       ⟨some 34, (some (29, false)), .load (.t 33) 1 false⟩,
       ⟨some 35, (some (29, false)), .bin .eql .num (.t 34) (.c (.int .i64 5))⟩,
       ⟨some 36, none, .pick (.t 29) (.c (.bool true)) (.t 35)⟩])
     (.cond 36
      (.seq
       (.reg [⟨some 6, none, .mv (.c (.nils))⟩,
         ⟨some 7, none, .mv (.c (.int .i64 8))⟩])
       .ret)
      .skip))
    (.seq
     (.seq
      (.reg [⟨some 37, none, .mv (.t 1)⟩,
        ⟨some 38, none, .mv (.t 2)⟩,
        ⟨some 39, none, .bin .gtr .num (.t 37) (.t 38)⟩,
        ⟨some 40, none, .mv (.t 39)⟩,
        ⟨some 41, (some (40, false)), .mv (.t 1)⟩,
        ⟨some 42, (some (40, false)), .bin .lss .num (.t 41) (.c (.int .i64 (-9007199254740992)))⟩,
        ⟨some 43, none, .pick (.t 40) (.c (.bool true)) (.t 42)⟩,
        ⟨some 44, none, .mv (.t 43)⟩,
        ⟨some 45, (some (44, false)), .mv (.t 2)⟩,
        ⟨some 46, (some (44, false)), .bin .gtr .num (.t 45) (.c (.int .i64 9007199254740992))⟩,
        ⟨some 47, none, .pick (.t 44) (.c (.bool true)) (.t 46)⟩])
      (.cond 47
       (.seq
        (.reg [⟨some 6, none, .mv (.c (.nils))⟩,
          ⟨some 7, none, .mv (.c (.int .i64 11))⟩])
        .ret)
       .skip))
     (.seq
      (.seq
       (.reg [⟨some 48, none, .mv (.t 2)⟩,
         ⟨some 49, none, .mv (.t 1)⟩,
         ⟨some 50, none, .bin .sub .num (.t 48) (.t 49)⟩,
         ⟨some 51, none, .bin .add .num (.t 50) (.c (.int .i64 1))⟩,
         ⟨some 52, none, .bin .gtr .num (.t 51) (.c (.int .i64 40))⟩])
       (.cond 52
        (.seq
         (.reg [⟨some 6, none, .mv (.c (.nils))⟩,
           ⟨some 7, none, .mv (.c (.int .i64 2))⟩])
         .ret)
        .skip))
      (.seq
       (.reg [⟨some 9, none, .alloc 9 [.nils, .nils]⟩])
       (.seq
        (.seq
         (.reg [⟨some 53, none, .mv (.c (.int .i64 0))⟩])
         (.block 0
          (.ownc (.s 9) 0 .int (.sub (.s 9) 9) (.ownc (.s 9) 1 .int (.sub (.s 9) 11) (.loop (.keep [0, 1, 2, 9, 53] [.s 9, (.sub (.s 9) 9), (.sub (.s 9) 11)]
           (.seq
            (.reg [⟨some 54, none, .bin .lss .num (.t 53) (.c (.int .i64 2))⟩])
            (.seq
             (.cond 54
              .skip
              (.exit 0))
             (.seq
              (.block 1
               (.seq
                (.reg [⟨some 55, none, .mv (.t 53)⟩,
                  ⟨some 10, none, .mv (.t 55)⟩])
                (.seq
                 (.seq
                  (.reg [⟨some 56, none, .mv (.t 0)⟩,
                    ⟨some 57, none, .len false (.t 56)⟩,
                    ⟨some 58, none, .mv (.c (.int .i64 0))⟩])
                  (.block 2
                   (.loop (.keep [0, 1, 2, 9, 10, 53, 56, 57, 58] [.s 9, (.sub (.s 9) 9), (.sub (.s 9) 11)]
                    (.seq
                     (.reg [⟨some 59, none, .bin .lss .num (.t 58) (.t 57)⟩])
                     (.seq
                      (.cond 59
                       .skip
                       (.exit 2))
                      (.seq
                       (.block 3
                        (.seq
                         (.reg [⟨some 60, none, .idxA (.t 56) (.t 58) 8⟩,
                           ⟨some 61, none, .load (.t 60) 8 true⟩,
                           ⟨some 12, none, .alloc 12 [.int .i64 0, .int .i64 0, .str ⟨#[]⟩, .isl .fld [], .int .i64 0, .int .i64 0, .str ⟨#[]⟩, .isl .fld []]⟩,
                           ⟨none, none, .store (.t 12) (.t 61) 8⟩])
                         (.seq
                          (.reg [⟨some 62, none, .mv (.t 10)⟩,
                            ⟨some 63, none, .idxArr (.t 12) (.t 62) 4 2⟩,
                            ⟨some 64, none, .fa (.t 63) 1⟩,
                            ⟨some 65, none, .load (.t 64) 1 false⟩,
                            ⟨some 66, none, .mv (.t 1)⟩,
                            ⟨some 67, none, .bin .lss .num (.t 65) (.t 66)⟩,
                            ⟨some 68, none, .mv (.t 67)⟩,
                            ⟨some 69, (some (68, false)), .mv (.t 10)⟩,
                            ⟨some 70, (some (68, false)), .idxArr (.t 12) (.t 69) 4 2⟩,
                            ⟨some 71, (some (68, false)), .fa (.t 70) 1⟩,
                            ⟨some 72, (some (68, false)), .load (.t 71) 1 false⟩,
                            ⟨some 73, (some (68, false)), .mv (.t 2)⟩,
                            ⟨some 74, (some (68, false)), .bin .gtr .num (.t 72) (.t 73)⟩,
                            ⟨some 75, none, .pick (.t 68) (.c (.bool true)) (.t 74)⟩])
                          (.cond 75
                           (.seq
                            (.reg [⟨some 6, none, .mv (.c (.nils))⟩,
                              ⟨some 7, none, .mv (.c (.int .i64 11))⟩])
                            .ret)
                           .skip))))
                       (.reg [⟨some 76, none, .bin .add .num (.t 58) (.c (.int .i64 1))⟩,
                         ⟨some 58, none, .mv (.t 76)⟩]))))))))
                 (.seq
                  (.reg [⟨some 77, none, .mv (.t 1)⟩,
                    ⟨some 13, none, .mv (.t 77)⟩])
                  (.block 4
                   (.loop (.keep [0, 1, 2, 9, 10, 13, 53] [.s 9, (.sub (.s 9) 9), (.sub (.s 9) 11)]
                    (.seq
                     (.seq
                      (.ownc (.s 9) 0 .int (.sub (.s 9) 10) (.ownc (.s 9) 1 .int (.sub (.s 9) 12) (.reg [⟨some 78, none, .mv (.t 13)⟩,
                        ⟨some 79, none, .mv (.t 2)⟩,
                        ⟨some 80, none, .bin .leq .num (.t 78) (.t 79)⟩])))
                      (.cond 80
                       .skip
                       (.exit 4)))
                     (.seq
                      (.block 5
                       (.seq
                        (.reg [⟨some 83, none, .mv (.t 0)⟩,
                          ⟨some 84, none, .mv (.t 10)⟩,
                          ⟨some 85, none, .mv (.t 0)⟩,
                          ⟨some 86, none, .mv (.t 10)⟩,
                          ⟨some 87, none, .idxA (.t 85) (.c (.int .i64 0)) 8⟩,
                          ⟨some 88, none, .idxArr (.t 87) (.t 86) 4 2⟩,
                          ⟨some 89, none, .fa (.t 88) 0⟩,
                          ⟨some 90, none, .load (.t 89) 1 false⟩,
                          ⟨some 91, none, .mv (.t 13)⟩,
                          ⟨some 92, none, .build [.int .i64 0, .int .i64 0, .str ⟨#[]⟩, .isl .fld []] [((0, 1), (.t 90)), ((1, 1), (.t 91))]⟩,
                          ⟨some 93, none, .call 93 47 [(.t 83), (.t 84), (.t 92)]⟩,
                          ⟨some 94, none, .bin .lss .num (.t 93) (.c (.int .i64 0))⟩])
                        (.cond 94
                         (.reg [⟨some 95, none, .mv (.t 10)⟩,
                           ⟨some 96, none, .mv (.t 10)⟩,
                           ⟨some 97, none, .idxArr (.t 9) (.t 96) 1 2⟩,
                           ⟨some 98, none, .load (.t 97) 1 false⟩,
                           ⟨some 99, none, .mv (.t 13)⟩,
                           ⟨some 100, none, .bsl .int [(.t 99)]⟩,
                           ⟨some 101, none, .app 101 .int 68719476736 (.t 98) (.t 100)⟩,
                           ⟨some 102, none, .idxArr (.t 9) (.t 95) 1 2⟩,
                           ⟨none, none, .store (.t 102) (.t 101) 1⟩])
                         .skip)))
                      (.keep [0, 1, 2, 9, 10, 13, 53] [.s 9, (.sub (.s 9) 10), (.sub (.s 9) 12), .s 101] (.ownc (.s 9) 0 .int (.sub (.s 9) 9) (.ownc (.s 9) 1 .int (.sub (.s 9) 11) (.reg [⟨some 81, none, .mv (.t 13)⟩,
                        ⟨some 82, none, .bin .add .num (.t 81) (.c (.int .i64 1))⟩,
                        ⟨some 13, none, .mv (.t 82)⟩])))))))))))))
              (.keep [0, 1, 2, 9, 53] [.s 9, (.sub (.s 9) 10), (.sub (.s 9) 12)] (.ownc (.s 9) 0 .int (.sub (.s 9) 9) (.ownc (.s 9) 1 .int (.sub (.s 9) 11) (.reg [⟨some 103, none, .bin .add .num (.t 53) (.c (.int .i64 1))⟩,
                ⟨some 53, none, .mv (.t 103)⟩])))))))))))))
        (.seq
         (.reg [⟨some 104, none, .mv (.t 0)⟩,
           ⟨some 105, none, .call 105 337 [(.t 104)]⟩,
           ⟨some 14, none, .mv (.t 105)⟩])
         (.seq
          (.seq
           (.fzc (.s 9) 0 (.fzc (.s 9) 1 (.reg [⟨some 106, none, .idxArr (.t 9) (.c (.int .i64 0)) 1 2⟩,
             ⟨some 107, none, .load (.t 106) 1 false⟩,
             ⟨some 108, none, .len false (.t 107)⟩,
             ⟨some 109, none, .mv (.c (.int .i64 0))⟩])))
           (.block 6
            (.own 14 .two (.sub (.s 14) 14) (.loop (.keep [0, 9, 14, 107, 108, 109] [.s 9, (.sub (.s 14) 14)]
             (.seq
              (.reg [⟨some 110, none, .bin .lss .num (.t 109) (.t 108)⟩])
              (.seq
               (.cond 110
                .skip
                (.exit 6))
               (.seq
                (.block 7
                 (.seq
                  (.reg [⟨some 111, none, .mv (.t 109)⟩,
                    ⟨some 112, none, .idxA (.t 107) (.t 109) 1⟩,
                    ⟨some 113, none, .load (.t 112) 1 false⟩,
                    ⟨some 15, none, .mv (.t 111)⟩,
                    ⟨some 16, none, .mv (.t 113)⟩])
                  (.drw [(.sub (.s 14) 14)] (ol [0, 1, 2, 3, 4, 5, 6, 7, 8, 9, 10, 11, 12, 13, 14, 15, 16, 17, 18, 19, 20, 21, 22]) [] [0, 1, 2, 3, 4, 5, 6, 7, 8, 9, 10, 11, 12, 13, 14, 15, 16, 17, 18, 19, 22] [⟨some 114, none, .mv (.t 14)⟩,
                    ⟨some 115, none, .mv (.t 0)⟩,
                    ⟨some 116, none, .idxA (.t 115) (.c (.int .i64 0)) 8⟩,
                    ⟨some 117, none, .idxArr (.t 116) (.c (.int .i64 0)) 4 2⟩,
                    ⟨some 118, none, .fa (.t 117) 0⟩,
                    ⟨some 119, none, .load (.t 118) 1 false⟩,
                    ⟨some 120, none, .mv (.t 16)⟩,
                    ⟨some 121, none, .build [.int .i64 0, .int .i64 0, .str ⟨#[]⟩, .isl .fld []] [((0, 1), (.t 119)), ((1, 1), (.t 120))]⟩,
                    ⟨some 122, none, .mv (.t 0)⟩,
                    ⟨some 123, none, .idxA (.t 122) (.c (.int .i64 0)) 8⟩,
                    ⟨some 124, none, .idxArr (.t 123) (.c (.int .i64 1)) 4 2⟩,
                    ⟨some 125, none, .fa (.t 124) 0⟩,
                    ⟨some 126, none, .load (.t 125) 1 false⟩,
                    ⟨some 127, none, .idxArr (.t 9) (.c (.int .i64 1)) 1 2⟩,
                    ⟨some 128, none, .load (.t 127) 1 false⟩,
                    ⟨some 129, none, .mv (.t 15)⟩,
                    ⟨some 130, none, .idxA (.t 128) (.t 129) 1⟩,
                    ⟨some 131, none, .load (.t 130) 1 false⟩,
                    ⟨some 132, none, .build [.int .i64 0, .int .i64 0, .str ⟨#[]⟩, .isl .fld []] [((0, 1), (.t 126)), ((1, 1), (.t 131))]⟩,
                    ⟨some 133, none, .build [.int .i64 0, .int .i64 0, .str ⟨#[]⟩, .isl .fld [], .int .i64 0, .int .i64 0, .str ⟨#[]⟩, .isl .fld []] [((0, 4), (.t 121)), ((4, 4), (.t 132))]⟩,
                    ⟨some 134, none, .bsl .two [(.t 133)]⟩,
                    ⟨some 135, none, .app 135 .two 68719476736 (.t 114) (.t 134)⟩,
                    ⟨some 14, none, .mv (.t 135)⟩])))
                (.keep [0, 9, 14, 107, 108, 109] [.s 9, .s 135] (.own 14 .two (.sub (.s 14) 14) (.reg [⟨some 136, none, .bin .add .num (.t 109) (.c (.int .i64 1))⟩,
                  ⟨some 109, none, .mv (.t 136)⟩])))))))))))
          (.seq
           (.seq
            (.fz 14 0 (.reg [⟨some 137, none, .mv (.t 14)⟩,
              ⟨some 138, none, .call 138 46 [(.t 137)]⟩,
              ⟨some 17, none, .mv (.t 138)⟩]))
            (.seq
             (.reg [⟨some 139, none, .mv (.t 17)⟩,
               ⟨some 140, none, .bin .neq .num (.t 139) (.c (.int .i64 0))⟩])
             (.cond 140
              (.seq
               (.reg [⟨some 141, none, .mv (.t 17)⟩,
                 ⟨some 6, none, .mv (.c (.nils))⟩,
                 ⟨some 7, none, .mv (.t 141)⟩])
               .ret)
              .skip)))
           (.seq
            (.reg [⟨some 142, none, .mv (.t 14)⟩,
              ⟨some 143, none, .call 143 48 [(.t 142)]⟩,
              ⟨some 6, none, .mv (.t 143)⟩,
              ⟨some 7, none, .mv (.c (.int .i64 0))⟩])
            .ret)))))))))))⟩

/-- clapkeep3.DictExtends -/
def ir304 : Fn TT := ⟨70, [.t 6],
 (.seq
  (.reg [⟨some 6, none, .mv (.c (.bool false))⟩])
  (.seq
   (.reg [⟨some 14, none, .mv (.t 1)⟩,
     ⟨some 15, none, .call 15 26 [(.t 14), (.c (.int .i64 12))]⟩,
     ⟨some 16, none, .bin .add .num (.c (.int .i64 1)) (.t 15)⟩,
     ⟨some 1, none, .mv (.t 16)⟩])
   (.seq
    (.reg [⟨some 17, none, .mv (.t 0)⟩,
      ⟨some 18, none, .mv (.t 1)⟩,
      ⟨some 19, none, .call 19 27 [(.t 17), (.t 18)]⟩,
      ⟨some 20, none, .mv (.t 2)⟩,
      ⟨some 21, none, .mv (.t 1)⟩,
      ⟨some 22, none, .call 22 26 [(.t 20), (.t 21)]⟩,
      ⟨some 23, none, .bin .add .num (.c (.int .i64 1)) (.t 22)⟩,
      ⟨some 24, none, .slc 8 (.t 19) none (some (.t 23))⟩,
      ⟨some 7, none, .mv (.t 24)⟩])
    (.seq
     (.reg [⟨some 26, none, .mv (.t 7)⟩,
       ⟨some 27, none, .mv (.t 1)⟩,
       ⟨some 28, none, .bin .sub .num (.t 27) (.c (.int .i64 1))⟩,
       ⟨some 29, none, .call 29 316 [(.t 26), (.c (.int .i64 0)), (.t 28)]⟩,
       ⟨some 25, none, .mv (.t 29)⟩,
       ⟨some 30, none, .ext (.t 25) 0⟩,
       ⟨some 31, none, .ext (.t 25) 1⟩,
       ⟨some 8, none, .mv (.t 30)⟩,
       ⟨some 9, none, .mv (.t 31)⟩])
     (.seq
      (.reg [⟨some 33, none, .mv (.t 8)⟩,
        ⟨some 34, none, .mv (.t 7)⟩,
        ⟨some 35, none, .call 35 317 [(.t 33), (.t 34)]⟩,
        ⟨some 32, none, .mv (.t 35)⟩,
        ⟨some 36, none, .ext (.t 32) 0⟩,
        ⟨some 37, none, .ext (.t 32) 1⟩,
        ⟨some 10, none, .mv (.t 36)⟩,
        ⟨some 11, none, .mv (.t 37)⟩])
      (.seq
       (.reg [⟨some 39, none, .mv (.t 7)⟩,
         ⟨some 40, none, .mv (.t 8)⟩,
         ⟨some 41, none, .call 41 318 [(.t 39), (.t 40)]⟩,
         ⟨some 38, none, .mv (.t 41)⟩,
         ⟨some 42, none, .ext (.t 38) 0⟩,
         ⟨some 43, none, .ext (.t 38) 1⟩,
         ⟨some 12, none, .mv (.t 42)⟩,
         ⟨some 13, none, .mv (.t 43)⟩])
       (.seq
        (.reg [⟨some 44, none, .mv (.t 9)⟩,
          ⟨some 45, none, .bin .eql .num (.t 44) (.c (.int .i64 0))⟩,
          ⟨some 46, none, .mv (.t 45)⟩,
          ⟨some 47, (some (46, true)), .mv (.t 11)⟩,
          ⟨some 48, (some (46, true)), .bin .eql .num (.t 47) (.c (.int .i64 0))⟩,
          ⟨some 49, none, .pick (.t 46) (.t 48) (.c (.bool false))⟩,
          ⟨some 50, none, .mv (.t 49)⟩,
          ⟨some 51, (some (50, true)), .mv (.t 13)⟩,
          ⟨some 52, (some (50, true)), .bin .eql .num (.t 51) (.c (.int .i64 0))⟩,
          ⟨some 53, none, .pick (.t 50) (.t 52) (.c (.bool false))⟩,
          ⟨some 54, none, .mv (.t 53)⟩,
          ⟨some 55, (some (54, true)), .mv (.t 8)⟩,
          ⟨some 56, (some (54, true)), .len false (.t 55)⟩,
          ⟨some 57, (some (54, true)), .mv (.t 1)⟩,
          ⟨some 58, (some (54, true)), .bin .eql .num (.t 56) (.t 57)⟩,
          ⟨some 59, none, .pick (.t 54) (.t 58) (.c (.bool false))⟩,
          ⟨some 60, none, .mv (.t 59)⟩,
          ⟨some 61, (some (60, true)), .mv (.t 12)⟩,
          ⟨some 62, (some (60, true)), .len false (.t 61)⟩,
          ⟨some 63, (some (60, true)), .bin .eql .num (.t 62) (.c (.int .i64 0))⟩,
          ⟨some 64, none, .pick (.t 60) (.t 63) (.c (.bool false))⟩,
          ⟨some 65, none, .mv (.t 64)⟩,
          ⟨some 66, (some (65, true)), .mv (.t 10)⟩,
          ⟨some 67, (some (65, true)), .mv (.t 8)⟩,
          ⟨some 68, (some (65, true)), .call 68 29 [(.t 66), (.t 67)]⟩,
          ⟨some 69, none, .pick (.t 65) (.t 68) (.c (.bool false))⟩,
          ⟨some 6, none, .mv (.t 69)⟩])
        .ret)))))))⟩

end Go.Clap
