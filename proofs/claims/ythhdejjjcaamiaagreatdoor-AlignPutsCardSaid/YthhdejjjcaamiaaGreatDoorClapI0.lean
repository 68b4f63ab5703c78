/- PRINTED by mkir.py: the small code of the loaded functions. -/
import Derived.Test.YthhdejjjcaamiaaGreatDoorClapSig
namespace Go.Clap

/-- cmp.isNaN[int] -/
def ir59 : Fn TT := ⟨6, [.t 2],
 (.seq
  (.reg [⟨some 2, none, .mv (.c (.bool false))⟩])
  (.seq
   (.reg [⟨some 3, none, .mv (.t 0)⟩,
     ⟨some 4, none, .mv (.t 0)⟩,
     ⟨some 5, none, .bin .neq .num (.t 3) (.t 4)⟩,
     ⟨some 2, none, .mv (.t 5)⟩])
   .ret))⟩

/-- cmp.Compare[int] -/
def ir38 : Fn TT := ⟨20, [.t 4],
 (.seq
  (.reg [⟨some 4, none, .mv (.c (.int .i64 0))⟩])
  (.seq
   (.reg [⟨some 7, none, .mv (.t 0)⟩,
     ⟨some 8, none, .call 8 59 [(.t 7)]⟩,
     ⟨some 5, none, .mv (.t 8)⟩])
   (.seq
    (.reg [⟨some 9, none, .mv (.t 1)⟩,
      ⟨some 10, none, .call 10 59 [(.t 9)]⟩,
      ⟨some 6, none, .mv (.t 10)⟩])
    (.seq
     (.seq
      (.reg [⟨some 11, none, .mv (.t 5)⟩])
      (.cond 11
       (.seq
        (.seq
         (.reg [⟨some 12, none, .mv (.t 6)⟩])
         (.cond 12
          (.seq
           (.reg [⟨some 4, none, .mv (.c (.int .i64 0))⟩])
           .ret)
          .skip))
        (.seq
         (.reg [⟨some 4, none, .mv (.c (.int .i64 (-1)))⟩])
         .ret))
       .skip))
     (.seq
      (.seq
       (.reg [⟨some 13, none, .mv (.t 6)⟩])
       (.cond 13
        (.seq
         (.reg [⟨some 4, none, .mv (.c (.int .i64 1))⟩])
         .ret)
        .skip))
      (.seq
       (.seq
        (.reg [⟨some 14, none, .mv (.t 0)⟩,
          ⟨some 15, none, .mv (.t 1)⟩,
          ⟨some 16, none, .bin .lss .num (.t 14) (.t 15)⟩])
        (.cond 16
         (.seq
          (.reg [⟨some 4, none, .mv (.c (.int .i64 (-1)))⟩])
          .ret)
         .skip))
       (.seq
        (.seq
         (.reg [⟨some 17, none, .mv (.t 0)⟩,
           ⟨some 18, none, .mv (.t 1)⟩,
           ⟨some 19, none, .bin .gtr .num (.t 17) (.t 18)⟩])
         (.cond 19
          (.seq
           (.reg [⟨some 4, none, .mv (.c (.int .i64 1))⟩])
           .ret)
          .skip))
        (.seq
         (.reg [⟨some 4, none, .mv (.c (.int .i64 0))⟩])
         .ret))))))))⟩

/-- cmp.Or[int] -/
def ir53 : Fn TT := ⟨18, [.t 2],
 (.seq
  (.reg [⟨some 2, none, .mv (.c (.int .i64 0))⟩])
  (.seq
   (.reg [⟨some 3, none, .mv (.c (.int .i64 0))⟩])
   (.seq
    (.seq
     (.reg [⟨some 6, none, .mv (.t 0)⟩,
       ⟨some 7, none, .len false (.t 6)⟩,
       ⟨some 8, none, .mv (.c (.int .i64 0))⟩])
     (.block 0
      (.loop (.keep [3, 6, 7, 8] []
       (.seq
        (.reg [⟨some 9, none, .bin .lss .num (.t 8) (.t 7)⟩])
        (.seq
         (.cond 9
          .skip
          (.exit 0))
         (.seq
          (.block 1
           (.seq
            (.reg [⟨some 10, none, .idxA (.t 6) (.t 8) 1⟩,
              ⟨some 11, none, .load (.t 10) 1 false⟩,
              ⟨some 5, none, .mv (.t 11)⟩])
            (.seq
             (.reg [⟨some 12, none, .mv (.t 5)⟩,
               ⟨some 13, none, .mv (.t 3)⟩,
               ⟨some 14, none, .bin .neq .num (.t 12) (.t 13)⟩])
             (.cond 14
              (.seq
               (.reg [⟨some 15, none, .mv (.t 5)⟩,
                 ⟨some 2, none, .mv (.t 15)⟩])
               .ret)
              .skip))))
          (.reg [⟨some 16, none, .bin .add .num (.t 8) (.c (.int .i64 1))⟩,
            ⟨some 8, none, .mv (.t 16)⟩]))))))))
    (.seq
     (.reg [⟨some 17, none, .mv (.t 3)⟩,
       ⟨some 2, none, .mv (.t 17)⟩])
     .ret))))⟩

/-- value.order -/
def ir52 : Fn TT := ⟨9, [.t 2],
 (.seq
  (.reg [⟨some 2, none, .mv (.c (.int .i64 0))⟩])
  (.seq
   (.seq
    (.reg [⟨some 3, none, .mv (.t 0)⟩,
      ⟨some 4, none, .bin .lss .num (.t 3) (.c (.int .i64 0))⟩])
    (.cond 4
     (.seq
      (.reg [⟨some 5, none, .mv (.t 0)⟩,
        ⟨some 6, none, .bin .and .num (.t 5) (.c (.int .i64 9223372036854775807))⟩,
        ⟨some 7, none, .bin .sub .num (.c (.int .i64 (-1))) (.t 6)⟩,
        ⟨some 2, none, .mv (.t 7)⟩])
      .ret)
     .skip))
   (.seq
    (.reg [⟨some 8, none, .mv (.t 0)⟩,
      ⟨some 2, none, .mv (.t 8)⟩])
    .ret)))⟩

/-- internal/bytealg.CompareString -/
def ir78 : Fn TT := ⟨8, [.t 4],
 (.seq
  (.reg [⟨some 4, none, .mv (.c (.int .i64 0))⟩])
  (.seq
   (.reg [⟨some 5, none, .mv (.t 0)⟩,
     ⟨some 6, none, .mv (.t 1)⟩,
     ⟨some 7, none, .xcmp (.t 5) (.t 6)⟩,
     ⟨some 4, none, .mv (.t 7)⟩])
   .ret))⟩

/-- strings.Compare -/
def ir54 : Fn TT := ⟨8, [.t 4],
 (.seq
  (.reg [⟨some 4, none, .mv (.c (.int .i64 0))⟩])
  (.seq
   (.reg [⟨some 5, none, .mv (.t 0)⟩,
     ⟨some 6, none, .mv (.t 1)⟩,
     ⟨some 7, none, .call 7 78 [(.t 5), (.t 6)]⟩,
     ⟨some 4, none, .mv (.t 7)⟩])
   .ret))⟩

/-- value.Cmp$1 -/
def ir56 : Fn TT := ⟨17, [.t 4],
 (.seq
  (.reg [⟨some 2, none, .box 2 (.t 0)⟩,
    ⟨some 3, none, .box 3 (.t 1)⟩,
    ⟨some 4, none, .mv (.c (.int .i64 0))⟩])
  (.seq
   (.drw [] (ol [0, 1, 2, 3, 5, 6, 7, 8, 4, 9, 10, 11, 12]) [] [0, 1, 2, 3, 5, 6, 7, 8, 12] [⟨some 5, none, .fa (.t 2) 0⟩,
     ⟨some 6, none, .load (.t 5) 1 false⟩,
     ⟨some 7, none, .fa (.t 3) 0⟩,
     ⟨some 8, none, .load (.t 7) 1 false⟩,
     ⟨some 9, none, .call 9 54 [(.t 6), (.t 8)]⟩,
     ⟨some 10, none, .fa (.t 2) 1⟩,
     ⟨some 11, none, .load (.t 10) 4 true⟩,
     ⟨some 12, none, .fa (.t 3) 1⟩,
     ⟨some 13, none, .load (.t 12) 4 true⟩,
     ⟨some 14, none, .call 14 34 [(.t 11), (.t 13)]⟩,
     ⟨some 15, none, .bsl .int [(.t 9), (.t 14)]⟩,
     ⟨some 16, none, .call 16 53 [(.t 15)]⟩,
     ⟨some 4, none, .mv (.t 16)⟩])
   .ret))⟩

/-- slices.CompareFunc[[]api.Field,[]api.Field,api.Field,api.Field] -/
def ir55 : Fn TT := ⟨39, [.t 6],
 (.seq
  (.reg [⟨some 6, none, .mv (.c (.int .i64 0))⟩])
  (.seq
   (.seq
    (.reg [⟨some 11, none, .mv (.t 0)⟩,
      ⟨some 12, none, .len false (.t 11)⟩,
      ⟨some 13, none, .mv (.c (.int .i64 0))⟩])
    (.block 0
     (.loop (.keep [0, 1, 2, 11, 12, 13] []
      (.seq
       (.reg [⟨some 14, none, .bin .lss .num (.t 13) (.t 12)⟩])
       (.seq
        (.cond 14
         .skip
         (.exit 0))
        (.seq
         (.block 1
          (.seq
           (.reg [⟨some 15, none, .mv (.t 13)⟩,
             ⟨some 16, none, .idxA (.t 11) (.t 13) 5⟩,
             ⟨some 17, none, .load (.t 16) 5 true⟩,
             ⟨some 8, none, .alloc 8 [.str ⟨#[]⟩, .int .i64 0, .int .i64 0, .str ⟨#[]⟩, .isl .fld []]⟩,
             ⟨some 7, none, .mv (.t 15)⟩,
             ⟨none, none, .store (.t 8) (.t 17) 5⟩])
           (.seq
            (.seq
             (.reg [⟨some 18, none, .mv (.t 7)⟩,
               ⟨some 19, none, .mv (.t 1)⟩,
               ⟨some 20, none, .len false (.t 19)⟩,
               ⟨some 21, none, .bin .geq .num (.t 18) (.t 20)⟩])
             (.cond 21
              (.seq
               (.reg [⟨some 6, none, .mv (.c (.int .i64 1))⟩])
               .ret)
              .skip))
            (.seq
             (.reg [⟨some 22, none, .mv (.t 1)⟩,
               ⟨some 23, none, .mv (.t 7)⟩,
               ⟨some 24, none, .idxA (.t 22) (.t 23) 5⟩,
               ⟨some 25, none, .load (.t 24) 5 true⟩,
               ⟨some 9, none, .alloc 9 [.str ⟨#[]⟩, .int .i64 0, .int .i64 0, .str ⟨#[]⟩, .isl .fld []]⟩,
               ⟨none, none, .store (.t 9) (.t 25) 5⟩])
             (.seq
              (.reg [⟨some 26, none, .mv (.t 2)⟩,
                ⟨some 27, none, .load (.t 8) 5 true⟩,
                ⟨some 28, none, .load (.t 9) 5 true⟩,
                ⟨some 29, none, .callv 29 (.t 26) [(.t 27), (.t 28)]⟩,
                ⟨some 10, none, .mv (.t 29)⟩])
              (.seq
               (.reg [⟨some 30, none, .mv (.t 10)⟩,
                 ⟨some 31, none, .bin .neq .num (.t 30) (.c (.int .i64 0))⟩])
               (.cond 31
                (.seq
                 (.reg [⟨some 32, none, .mv (.t 10)⟩,
                   ⟨some 6, none, .mv (.t 32)⟩])
                 .ret)
                .skip)))))))
         (.reg [⟨some 33, none, .bin .add .num (.t 13) (.c (.int .i64 1))⟩,
           ⟨some 13, none, .mv (.t 33)⟩]))))))))
   (.seq
    (.seq
     (.reg [⟨some 34, none, .mv (.t 0)⟩,
       ⟨some 35, none, .len false (.t 34)⟩,
       ⟨some 36, none, .mv (.t 1)⟩,
       ⟨some 37, none, .len false (.t 36)⟩,
       ⟨some 38, none, .bin .lss .num (.t 35) (.t 37)⟩])
     (.cond 38
      (.seq
       (.reg [⟨some 6, none, .mv (.c (.int .i64 (-1)))⟩])
       .ret)
      .skip))
    (.seq
     (.reg [⟨some 6, none, .mv (.c (.int .i64 0))⟩])
     .ret))))⟩

/-- value.Cmp -/
def ir34 : Fn TT := ⟨42, [.t 4],
 (.seq
  (.reg [⟨some 2, none, .box 2 (.t 0)⟩,
    ⟨some 3, none, .box 3 (.t 1)⟩,
    ⟨some 4, none, .mv (.c (.int .i64 0))⟩])
  (.seq
   (.drw [] (ol [0, 1, 2, 3, 4, 5]) [] [0, 1, 2, 3, 4, 5] [⟨some 8, none, .fa (.t 2) 1⟩,
     ⟨some 9, none, .load (.t 8) 1 false⟩,
     ⟨some 10, none, .fa (.t 3) 1⟩,
     ⟨some 11, none, .load (.t 10) 1 false⟩,
     ⟨some 5, none, .mv (.t 9)⟩,
     ⟨some 6, none, .mv (.t 11)⟩])
   (.seq
    (.seq
     (.reg [⟨some 12, none, .fa (.t 2) 0⟩,
       ⟨some 13, none, .load (.t 12) 1 false⟩,
       ⟨some 14, none, .bin .eql .num (.t 13) (.c (.int .i64 3))⟩])
     (.cond 14
      (.reg [⟨some 15, none, .mv (.t 5)⟩,
        ⟨some 16, none, .call 16 52 [(.t 15)]⟩,
        ⟨some 17, none, .mv (.t 6)⟩,
        ⟨some 18, none, .call 18 52 [(.t 17)]⟩,
        ⟨some 5, none, .mv (.t 16)⟩,
        ⟨some 6, none, .mv (.t 18)⟩])
      .skip))
    (.seq
     (.drw [] (ol [0, 1, 2, 3, 5, 6, 8, 9, 10, 11, 4, 7, 12, 13, 14, 15]) [] [0, 1, 2, 3, 5, 6, 8, 9, 10, 11, 15] [⟨some 19, none, .fa (.t 2) 0⟩,
       ⟨some 20, none, .load (.t 19) 1 false⟩,
       ⟨some 21, none, .fa (.t 3) 0⟩,
       ⟨some 22, none, .load (.t 21) 1 false⟩,
       ⟨some 23, none, .call 23 38 [(.t 20), (.t 22)]⟩,
       ⟨some 24, none, .mv (.t 5)⟩,
       ⟨some 25, none, .mv (.t 6)⟩,
       ⟨some 26, none, .call 26 38 [(.t 24), (.t 25)]⟩,
       ⟨some 27, none, .fa (.t 2) 2⟩,
       ⟨some 28, none, .load (.t 27) 1 false⟩,
       ⟨some 29, none, .fa (.t 3) 2⟩,
       ⟨some 30, none, .load (.t 29) 1 false⟩,
       ⟨some 31, none, .call 31 54 [(.t 28), (.t 30)]⟩,
       ⟨some 32, none, .bsl .int [(.t 23), (.t 26), (.t 31)]⟩,
       ⟨some 33, none, .call 33 53 [(.t 32)]⟩,
       ⟨some 7, none, .mv (.t 33)⟩])
     (.seq
      (.seq
       (.reg [⟨some 34, none, .mv (.t 7)⟩,
         ⟨some 35, none, .bin .neq .num (.t 34) (.c (.int .i64 0))⟩])
       (.cond 35
        (.seq
         (.reg [⟨some 36, none, .mv (.t 7)⟩,
           ⟨some 4, none, .mv (.t 36)⟩])
         .ret)
        .skip))
      (.seq
       (.reg [⟨some 37, none, .fa (.t 2) 3⟩,
         ⟨some 38, none, .load (.t 37) 1 false⟩,
         ⟨some 39, none, .fa (.t 3) 3⟩,
         ⟨some 40, none, .load (.t 39) 1 false⟩,
         ⟨some 41, none, .call 41 55 [(.t 38), (.t 40), (.c (.fn 56 []))]⟩,
         ⟨some 4, none, .mv (.t 41)⟩])
       .ret))))))⟩

/-- value.Same -/
def ir11 : Fn TT := ⟨9, [.t 4],
 (.seq
  (.reg [⟨some 2, none, .box 2 (.t 0)⟩,
    ⟨some 3, none, .box 3 (.t 1)⟩,
    ⟨some 4, none, .mv (.c (.bool false))⟩])
  (.seq
   (.reg [⟨some 5, none, .load (.t 2) 4 true⟩,
     ⟨some 6, none, .load (.t 3) 4 true⟩,
     ⟨some 7, none, .call 7 34 [(.t 5), (.t 6)]⟩,
     ⟨some 8, none, .bin .eql .num (.t 7) (.c (.int .i64 0))⟩,
     ⟨some 4, none, .mv (.t 8)⟩])
   .ret))⟩

end Go.Clap
