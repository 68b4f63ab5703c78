/- PRINTED by mkir.py: the small code of the loaded functions. -/
import Derived.Test.YtnielhfaioakkaaGreatClapV1
namespace Go.Clap

/-- value.Size -/
def ir75 : Fn TT := ⟨20, [.t 2],
 (.seq
  (.reg [⟨some 1, none, .box 1 (.t 0)⟩,
    ⟨some 2, none, .mv (.c (.int .i64 0))⟩])
  (.seq
   (.reg [⟨some 3, none, .mv (.c (.int .i64 1))⟩])
   (.seq
    (.seq
     (.reg [⟨some 6, none, .fa (.t 1) 3⟩,
       ⟨some 7, none, .load (.t 6) 1 false⟩,
       ⟨some 8, none, .len false (.t 7)⟩,
       ⟨some 9, none, .mv (.c (.int .i64 0))⟩])
     (.block 0
      (.loop (.keep [3, 7, 8, 9] []
       (.seq
        (.reg [⟨some 10, none, .bin .lss .num (.t 9) (.t 8)⟩])
        (.seq
         (.cond 10
          .skip
          (.exit 0))
         (.seq
          (.block 1
           (.seq
            (.reg [⟨some 11, none, .idxA (.t 7) (.t 9) 5⟩,
              ⟨some 12, none, .load (.t 11) 5 true⟩,
              ⟨some 5, none, .alloc 5 [.str ⟨#[]⟩, .int .i64 0, .int .i64 0, .str ⟨#[]⟩, .isl .fld []]⟩,
              ⟨none, none, .store (.t 5) (.t 12) 5⟩])
            (.reg [⟨some 13, none, .mv (.t 3)⟩,
              ⟨some 14, none, .fa (.t 5) 1⟩,
              ⟨some 15, none, .load (.t 14) 4 true⟩,
              ⟨some 16, none, .call 16 75 [(.t 15)]⟩,
              ⟨some 17, none, .bin .add .num (.t 13) (.t 16)⟩,
              ⟨some 3, none, .mv (.t 17)⟩])))
          (.reg [⟨some 18, none, .bin .add .num (.t 9) (.c (.int .i64 1))⟩,
            ⟨some 9, none, .mv (.t 18)⟩]))))))))
    (.seq
     (.reg [⟨some 19, none, .mv (.t 3)⟩,
       ⟨some 2, none, .mv (.t 19)⟩])
     .ret))))⟩

/-- value.Deep -/
def ir76 : Fn TT := ⟨21, [.t 2],
 (.seq
  (.reg [⟨some 1, none, .box 1 (.t 0)⟩,
    ⟨some 2, none, .mv (.c (.int .i64 0))⟩])
  (.seq
   (.reg [⟨some 3, none, .mv (.c (.int .i64 0))⟩])
   (.seq
    (.seq
     (.reg [⟨some 6, none, .fa (.t 1) 3⟩,
       ⟨some 7, none, .load (.t 6) 1 false⟩,
       ⟨some 8, none, .len false (.t 7)⟩,
       ⟨some 9, none, .mv (.c (.int .i64 0))⟩])
     (.block 0
      (.loop (.keep [3, 7, 8, 9] []
       (.seq
        (.reg [⟨some 10, none, .bin .lss .num (.t 9) (.t 8)⟩])
        (.seq
         (.cond 10
          .skip
          (.exit 0))
         (.seq
          (.block 1
           (.seq
            (.reg [⟨some 11, none, .idxA (.t 7) (.t 9) 5⟩,
              ⟨some 12, none, .load (.t 11) 5 true⟩,
              ⟨some 5, none, .alloc 5 [.str ⟨#[]⟩, .int .i64 0, .int .i64 0, .str ⟨#[]⟩, .isl .fld []]⟩,
              ⟨none, none, .store (.t 5) (.t 12) 5⟩])
            (.reg [⟨some 13, none, .mv (.t 3)⟩,
              ⟨some 14, none, .fa (.t 5) 1⟩,
              ⟨some 15, none, .load (.t 14) 4 true⟩,
              ⟨some 16, none, .call 16 76 [(.t 15)]⟩,
              ⟨some 17, none, .mx [(.t 13), (.t 16)]⟩,
              ⟨some 3, none, .mv (.t 17)⟩])))
          (.reg [⟨some 18, none, .bin .add .num (.t 9) (.c (.int .i64 1))⟩,
            ⟨some 9, none, .mv (.t 18)⟩]))))))))
    (.seq
     (.reg [⟨some 19, none, .mv (.t 3)⟩,
       ⟨some 20, none, .bin .add .num (.t 19) (.c (.int .i64 1))⟩,
       ⟨some 2, none, .mv (.t 20)⟩])
     .ret))))⟩

/-- value.Scalar -/
def ir127 : Fn TT := ⟨13, [.t 2],
 (.seq
  (.reg [⟨some 2, none, .mv (.c (.bool false))⟩])
  (.seq
   (.reg [⟨some 3, none, .mv (.t 0)⟩,
     ⟨some 4, none, .bin .geq .num (.t 3) (.c (.int .i64 0))⟩,
     ⟨some 5, none, .mv (.t 4)⟩,
     ⟨some 6, (some (5, true)), .mv (.t 0)⟩,
     ⟨some 7, (some (5, true)), .bin .leq .num (.t 6) (.c (.int .i64 5))⟩,
     ⟨some 8, none, .pick (.t 5) (.t 7) (.c (.bool false))⟩,
     ⟨some 9, none, .mv (.t 8)⟩,
     ⟨some 10, (some (9, false)), .mv (.t 0)⟩,
     ⟨some 11, (some (9, false)), .bin .eql .num (.t 10) (.c (.int .i64 11))⟩,
     ⟨some 12, none, .pick (.t 9) (.c (.bool true)) (.t 11)⟩,
     ⟨some 2, none, .mv (.t 12)⟩])
   .ret))⟩

/-- value.unused -/
def ir99 : Fn TT := ⟨45, [.t 2],
 (.seq
  (.reg [⟨some 1, none, .box 1 (.t 0)⟩,
    ⟨some 2, none, .mv (.c (.bool false))⟩])
  (.seq
   (.reg [⟨some 4, none, .fa (.t 1) 0⟩,
     ⟨some 5, none, .load (.t 4) 1 false⟩,
     ⟨some 6, none, .bin .geq .num (.t 5) (.c (.int .i64 1))⟩,
     ⟨some 7, none, .mv (.t 6)⟩,
     ⟨some 8, (some (7, true)), .fa (.t 1) 0⟩,
     ⟨some 9, (some (7, true)), .load (.t 8) 1 false⟩,
     ⟨some 10, (some (7, true)), .bin .leq .num (.t 9) (.c (.int .i64 4))⟩,
     ⟨some 11, none, .pick (.t 7) (.t 10) (.c (.bool false))⟩,
     ⟨some 12, none, .mv (.t 11)⟩,
     ⟨some 13, (some (12, false)), .fa (.t 1) 0⟩,
     ⟨some 14, (some (12, false)), .load (.t 13) 1 false⟩,
     ⟨some 15, (some (12, false)), .bin .eql .num (.t 14) (.c (.int .i64 11))⟩,
     ⟨some 16, none, .pick (.t 12) (.c (.bool true)) (.t 15)⟩,
     ⟨some 3, none, .mv (.t 16)⟩])
   (.seq
    (.reg [⟨some 17, none, .mv (.t 3)⟩,
      ⟨some 18, none, .un .not (.t 17)⟩,
      ⟨some 19, none, .mv (.t 18)⟩,
      ⟨some 20, (some (19, true)), .fa (.t 1) 1⟩,
      ⟨some 21, (some (19, true)), .load (.t 20) 1 false⟩,
      ⟨some 22, (some (19, true)), .bin .neq .num (.t 21) (.c (.int .i64 0))⟩,
      ⟨some 23, none, .pick (.t 19) (.t 22) (.c (.bool false))⟩,
      ⟨some 24, none, .mv (.t 23)⟩,
      ⟨some 25, (some (24, false)), .fa (.t 1) 0⟩,
      ⟨some 26, (some (24, false)), .load (.t 25) 1 false⟩,
      ⟨some 27, (some (24, false)), .bin .neq .num (.t 26) (.c (.int .i64 5))⟩,
      ⟨some 28, (some (24, false)), .mv (.t 27)⟩,
      ⟨some 29, (some (28, true)), .fa (.t 1) 2⟩,
      ⟨some 30, (some (28, true)), .load (.t 29) 1 false⟩,
      ⟨some 31, (some (28, true)), .bin .neq .str (.t 30) (.c (.str ⟨#[]⟩))⟩,
      ⟨some 32, (some (24, false)), .pick (.t 28) (.t 31) (.c (.bool false))⟩,
      ⟨some 33, none, .pick (.t 24) (.c (.bool true)) (.t 32)⟩,
      ⟨some 34, none, .mv (.t 33)⟩,
      ⟨some 35, (some (34, false)), .fa (.t 1) 0⟩,
      ⟨some 36, (some (34, false)), .load (.t 35) 1 false⟩,
      ⟨some 37, (some (34, false)), .call 37 127 [(.t 36)]⟩,
      ⟨some 38, (some (34, false)), .mv (.t 37)⟩,
      ⟨some 39, (some (38, true)), .fa (.t 1) 3⟩,
      ⟨some 40, (some (38, true)), .load (.t 39) 1 false⟩,
      ⟨some 41, (some (38, true)), .len false (.t 40)⟩,
      ⟨some 42, (some (38, true)), .bin .gtr .num (.t 41) (.c (.int .i64 0))⟩,
      ⟨some 43, (some (34, false)), .pick (.t 38) (.t 42) (.c (.bool false))⟩,
      ⟨some 44, none, .pick (.t 34) (.c (.bool true)) (.t 43)⟩,
      ⟨some 2, none, .mv (.t 44)⟩])
    .ret)))⟩

/-- value.number -/
def ir100 : Fn TT := ⟨45, [.t 2],
 (.seq
  (.reg [⟨some 1, none, .box 1 (.t 0)⟩,
    ⟨some 2, none, .mv (.c (.bool false))⟩])
  (.seq
   (.seq
    (.reg [⟨some 3, none, .fa (.t 1) 0⟩,
      ⟨some 4, none, .load (.t 3) 1 false⟩])
    (.block 0
     (.seq
      (.reg [⟨some 6, none, .bin .eql .num (.t 4) (.c (.int .i64 1))⟩,
        ⟨some 5, none, .mv (.t 6)⟩])
      (.cond 5
       (.seq
        (.reg [⟨some 7, none, .fa (.t 1) 1⟩,
          ⟨some 8, none, .load (.t 7) 1 false⟩,
          ⟨some 9, none, .bin .eql .num (.t 8) (.c (.int .i64 0))⟩,
          ⟨some 10, none, .mv (.t 9)⟩,
          ⟨some 11, (some (10, false)), .fa (.t 1) 1⟩,
          ⟨some 12, (some (10, false)), .load (.t 11) 1 false⟩,
          ⟨some 13, (some (10, false)), .bin .eql .num (.t 12) (.c (.int .i64 1))⟩,
          ⟨some 14, none, .pick (.t 10) (.c (.bool true)) (.t 13)⟩,
          ⟨some 2, none, .mv (.t 14)⟩])
        .ret)
       (.seq
        (.reg [⟨some 16, none, .bin .eql .num (.t 4) (.c (.int .i64 2))⟩,
          ⟨some 15, none, .mv (.t 16)⟩])
        (.cond 15
         (.seq
          (.reg [⟨some 17, none, .fa (.t 1) 1⟩,
            ⟨some 18, none, .load (.t 17) 1 false⟩,
            ⟨some 19, none, .bin .geq .num (.t 18) (.c (.int .i64 (-9007199254740992)))⟩,
            ⟨some 20, none, .mv (.t 19)⟩,
            ⟨some 21, (some (20, true)), .fa (.t 1) 1⟩,
            ⟨some 22, (some (20, true)), .load (.t 21) 1 false⟩,
            ⟨some 23, (some (20, true)), .bin .leq .num (.t 22) (.c (.int .i64 9007199254740992))⟩,
            ⟨some 24, none, .pick (.t 20) (.t 23) (.c (.bool false))⟩,
            ⟨some 2, none, .mv (.t 24)⟩])
          .ret)
         (.seq
          (.reg [⟨some 26, none, .bin .eql .num (.t 4) (.c (.int .i64 4))⟩,
            ⟨some 25, none, .mv (.t 26)⟩])
          (.cond 25
           (.seq
            (.reg [⟨some 27, none, .fa (.t 1) 1⟩,
              ⟨some 28, none, .load (.t 27) 1 false⟩,
              ⟨some 29, none, .bin .geq .num (.t 28) (.c (.int .i64 0))⟩,
              ⟨some 30, none, .mv (.t 29)⟩,
              ⟨some 31, (some (30, true)), .fa (.t 1) 1⟩,
              ⟨some 32, (some (30, true)), .load (.t 31) 1 false⟩,
              ⟨some 33, (some (30, true)), .bin .leq .num (.t 32) (.c (.int .i64 4194304))⟩,
              ⟨some 34, none, .pick (.t 30) (.t 33) (.c (.bool false))⟩,
              ⟨some 2, none, .mv (.t 34)⟩])
            .ret)
           (.seq
            (.reg [⟨some 36, none, .bin .eql .num (.t 4) (.c (.int .i64 11))⟩,
              ⟨some 35, none, .mv (.t 36)⟩])
            (.cond 35
             (.seq
              (.reg [⟨some 37, none, .fa (.t 1) 1⟩,
                ⟨some 38, none, .load (.t 37) 1 false⟩,
                ⟨some 39, none, .bin .geq .num (.t 38) (.c (.int .i64 0))⟩,
                ⟨some 40, none, .mv (.t 39)⟩,
                ⟨some 41, (some (40, true)), .fa (.t 1) 1⟩,
                ⟨some 42, (some (40, true)), .load (.t 41) 1 false⟩,
                ⟨some 43, (some (40, true)), .bin .leq .num (.t 42) (.c (.int .i64 9007199254740992))⟩,
                ⟨some 44, none, .pick (.t 40) (.t 43) (.c (.bool false))⟩,
                ⟨some 2, none, .mv (.t 44)⟩])
              .ret)
             .skip))))))))))
   (.seq
    (.reg [⟨some 2, none, .mv (.c (.bool true))⟩])
    .ret)))⟩

/-- value.names -/
def ir128 : Fn TT := ⟨22, [.t 2],
 (.seq
  (.reg [⟨some 2, none, .mv (.c (.int .i64 0))⟩])
  (.seq
   (.seq
    (.reg [⟨some 5, none, .mv (.t 0)⟩,
      ⟨some 6, none, .len false (.t 5)⟩,
      ⟨some 7, none, .mv (.c (.int .i64 0))⟩])
    (.block 0
     (.loop (.keep [0, 5, 6, 7] []
      (.seq
       (.reg [⟨some 8, none, .bin .lss .num (.t 7) (.t 6)⟩])
       (.seq
        (.cond 8
         .skip
         (.exit 0))
        (.seq
         (.block 1
          (.seq
           (.reg [⟨some 9, none, .mv (.t 7)⟩,
             ⟨some 10, none, .idxA (.t 5) (.t 7) 5⟩,
             ⟨some 11, none, .load (.t 10) 5 true⟩,
             ⟨some 4, none, .alloc 4 [.str ⟨#[]⟩, .int .i64 0, .int .i64 0, .str ⟨#[]⟩, .isl .fld []]⟩,
             ⟨some 3, none, .mv (.t 9)⟩,
             ⟨none, none, .store (.t 4) (.t 11) 5⟩])
           (.seq
            (.seq
             (.reg [⟨some 12, none, .fa (.t 4) 0⟩,
               ⟨some 13, none, .load (.t 12) 1 false⟩,
               ⟨some 14, none, .call 14 132 [(.t 13)]⟩,
               ⟨some 15, none, .un .not (.t 14)⟩])
             (.cond 15
              (.seq
               (.reg [⟨some 2, none, .mv (.c (.int .i64 15))⟩])
               .ret)
              .skip))
            (.seq
             (.reg [⟨some 16, none, .mv (.t 0)⟩,
               ⟨some 17, none, .mv (.t 3)⟩,
               ⟨some 18, none, .slc 5 (.t 16) none (some (.t 17))⟩,
               ⟨some 19, none, .mkf 152 [(.t 4)]⟩,
               ⟨some 20, none, .call 20 151 [(.t 18), (.t 19)]⟩])
             (.cond 20
              (.seq
               (.reg [⟨some 2, none, .mv (.c (.int .i64 5))⟩])
               .ret)
              .skip)))))
         (.reg [⟨some 21, none, .bin .add .num (.t 7) (.c (.int .i64 1))⟩,
           ⟨some 7, none, .mv (.t 21)⟩]))))))))
   (.seq
    (.reg [⟨some 2, none, .mv (.c (.int .i64 0))⟩])
    .ret)))⟩

/-- slices.ContainsFunc[[]api.Field,api.Field] -/
def ir151 : Fn TT := ⟨9, [.t 4],
 (.seq
  (.reg [⟨some 4, none, .mv (.c (.bool false))⟩])
  (.seq
   (.reg [⟨some 5, none, .mv (.t 0)⟩,
     ⟨some 6, none, .mv (.t 1)⟩,
     ⟨some 7, none, .call 7 163 [(.t 5), (.t 6)]⟩,
     ⟨some 8, none, .bin .geq .num (.t 7) (.c (.int .i64 0))⟩,
     ⟨some 4, none, .mv (.t 8)⟩])
   .ret))⟩

/-- slices.IndexFunc[[]api.Field,api.Field] -/
def ir163 : Fn TT := ⟨19, [.t 4],
 (.seq
  (.reg [⟨some 4, none, .mv (.c (.int .i64 0))⟩])
  (.seq
   (.seq
    (.reg [⟨some 6, none, .mv (.t 0)⟩,
      ⟨some 7, none, .len false (.t 6)⟩,
      ⟨some 8, none, .mv (.c (.int .i64 0))⟩])
    (.block 0
     (.loop (.keep [0, 1, 7, 8] [.x 0]
      (.seq
       (.reg [⟨some 9, none, .bin .lss .num (.t 8) (.t 7)⟩])
       (.seq
        (.cond 9
         .skip
         (.exit 0))
        (.seq
         (.block 1
          (.seq
           (.reg [⟨some 10, none, .mv (.t 8)⟩,
             ⟨some 5, none, .mv (.t 10)⟩])
           (.seq
            (.reg [⟨some 11, none, .mv (.t 1)⟩,
              ⟨some 12, none, .mv (.t 0)⟩,
              ⟨some 13, none, .mv (.t 5)⟩,
              ⟨some 14, none, .idxA (.t 12) (.t 13) 5⟩,
              ⟨some 15, none, .load (.t 14) 5 true⟩,
              ⟨some 16, none, .callv 16 (.t 11) [(.t 15)]⟩])
            (.cond 16
             (.seq
              (.reg [⟨some 17, none, .mv (.t 5)⟩,
                ⟨some 4, none, .mv (.t 17)⟩])
              .ret)
             .skip))))
         (.reg [⟨some 18, none, .bin .add .num (.t 8) (.c (.int .i64 1))⟩,
           ⟨some 8, none, .mv (.t 18)⟩]))))))))
   (.seq
    (.reg [⟨some 4, none, .mv (.c (.int .i64 (-1)))⟩])
    .ret)))⟩

/-- value.names$1 -/
def ir152 : Fn TT := ⟨9, [.t 3],
 (.seq
  (.reg [⟨some 2, none, .box 2 (.t 0)⟩,
    ⟨some 3, none, .mv (.c (.bool false))⟩])
  (.seq
   (.reg [⟨some 4, none, .fa (.t 2) 0⟩,
     ⟨some 5, none, .load (.t 4) 1 false⟩,
     ⟨some 6, none, .fa (.t 1) 0⟩,
     ⟨some 7, none, .load (.t 6) 1 false⟩,
     ⟨some 8, none, .bin .eql .str (.t 5) (.t 7)⟩,
     ⟨some 3, none, .mv (.t 8)⟩])
   .ret))⟩

/-- value.keys -/
def ir129 : Fn TT := ⟨47, [.t 2],
 (.seq
  (.reg [⟨some 1, none, .box 1 (.t 0)⟩,
    ⟨some 2, none, .mv (.c (.int .i64 0))⟩])
  (.seq
   (.seq
    (.reg [⟨some 5, none, .fa (.t 1) 3⟩,
      ⟨some 6, none, .load (.t 5) 1 false⟩,
      ⟨some 7, none, .len false (.t 6)⟩,
      ⟨some 8, none, .mv (.c (.int .i64 0))⟩])
    (.block 0
     (.loop (.keep [1, 6, 7, 8] [.s 1]
      (.seq
       (.reg [⟨some 9, none, .bin .lss .num (.t 8) (.t 7)⟩])
       (.seq
        (.cond 9
         .skip
         (.exit 0))
        (.seq
         (.block 1
          (.seq
           (.reg [⟨some 10, none, .mv (.t 8)⟩,
             ⟨some 11, none, .idxA (.t 6) (.t 8) 5⟩,
             ⟨some 12, none, .load (.t 11) 5 true⟩,
             ⟨some 4, none, .alloc 4 [.str ⟨#[]⟩, .int .i64 0, .int .i64 0, .str ⟨#[]⟩, .isl .fld []]⟩,
             ⟨some 3, none, .mv (.t 10)⟩,
             ⟨none, none, .store (.t 4) (.t 12) 5⟩])
           (.block 2
            (.seq
             (.reg [⟨some 14, none, .fa (.t 1) 0⟩,
               ⟨some 15, none, .load (.t 14) 1 false⟩,
               ⟨some 16, none, .bin .eql .num (.t 15) (.c (.int .i64 8))⟩,
               ⟨some 17, none, .mv (.t 16)⟩,
               ⟨some 18, (some (17, true)), .fa (.t 4) 0⟩,
               ⟨some 19, (some (17, true)), .load (.t 18) 1 false⟩,
               ⟨some 20, (some (17, true)), .bin .neq .str (.t 19) (.c (.str ⟨#[]⟩))⟩,
               ⟨some 21, none, .pick (.t 17) (.t 20) (.c (.bool false))⟩,
               ⟨some 13, none, .mv (.t 21)⟩])
             (.cond 13
              (.seq
               (.reg [⟨some 2, none, .mv (.c (.int .i64 3))⟩])
               .ret)
              (.seq
               (.reg [⟨some 23, none, .fa (.t 1) 0⟩,
                 ⟨some 24, none, .load (.t 23) 1 false⟩,
                 ⟨some 25, none, .bin .eql .num (.t 24) (.c (.int .i64 8))⟩,
                 ⟨some 22, none, .mv (.t 25)⟩])
               (.cond 22
                .skip
                (.seq
                 (.reg [⟨some 27, none, .fa (.t 4) 0⟩,
                   ⟨some 28, none, .load (.t 27) 1 false⟩,
                   ⟨some 29, none, .len true (.t 28)⟩,
                   ⟨some 30, none, .bin .gtr .num (.t 29) (.c (.int .i64 4000))⟩,
                   ⟨some 26, none, .mv (.t 30)⟩])
                 (.cond 26
                  (.seq
                   (.reg [⟨some 2, none, .mv (.c (.int .i64 2))⟩])
                   .ret)
                  (.seq
                   (.drw [] (ol [0, 1, 2, 3, 4, 5, 6, 7, 8, 9, 10, 11, 12, 13, 14]) [] [0, 1, 2, 3, 4, 5, 6, 7, 8, 9, 10, 11, 12, 13, 14] [⟨some 32, none, .mv (.t 3)⟩,
                     ⟨some 33, none, .bin .gtr .num (.t 32) (.c (.int .i64 0))⟩,
                     ⟨some 34, none, .mv (.t 33)⟩,
                     ⟨some 35, (some (34, true)), .fa (.t 4) 0⟩,
                     ⟨some 36, (some (34, true)), .load (.t 35) 1 false⟩,
                     ⟨some 37, (some (34, true)), .fa (.t 1) 3⟩,
                     ⟨some 38, (some (34, true)), .load (.t 37) 1 false⟩,
                     ⟨some 39, (some (34, true)), .mv (.t 3)⟩,
                     ⟨some 40, (some (34, true)), .bin .sub .num (.t 39) (.c (.int .i64 1))⟩,
                     ⟨some 41, (some (34, true)), .idxA (.t 38) (.t 40) 5⟩,
                     ⟨some 42, (some (34, true)), .fa (.t 41) 0⟩,
                     ⟨some 43, (some (34, true)), .load (.t 42) 1 false⟩,
                     ⟨some 44, (some (34, true)), .bin .leq .str (.t 36) (.t 43)⟩,
                     ⟨some 45, none, .pick (.t 34) (.t 44) (.c (.bool false))⟩,
                     ⟨some 31, none, .mv (.t 45)⟩])
                   (.cond 31
                    (.seq
                     (.reg [⟨some 2, none, .mv (.c (.int .i64 9))⟩])
                     .ret)
                    .skip)))))))))))
         (.reg [⟨some 46, none, .bin .add .num (.t 8) (.c (.int .i64 1))⟩,
           ⟨some 8, none, .mv (.t 46)⟩]))))))))
   (.seq
    (.reg [⟨some 2, none, .mv (.c (.int .i64 0))⟩])
    .ret)))⟩

/-- value.fields -/
def ir101 : Fn TT := ⟨38, [.t 2],
 (.seq
  (.reg [⟨some 1, none, .box 1 (.t 0)⟩,
    ⟨some 2, none, .mv (.c (.int .i64 0))⟩])
  (.seq
   (.seq
    (.reg [⟨some 3, none, .fa (.t 1) 0⟩,
      ⟨some 4, none, .load (.t 3) 1 false⟩])
    (.block 0
     (.seq
      (.reg [⟨some 6, none, .bin .eql .num (.t 4) (.c (.int .i64 5))⟩,
        ⟨some 5, none, .mv (.t 6)⟩])
      (.cond 5
       (.seq
        (.reg [⟨some 7, none, .fa (.t 1) 2⟩,
          ⟨some 8, none, .load (.t 7) 1 false⟩,
          ⟨some 9, none, .len true (.t 8)⟩,
          ⟨some 10, none, .bin .gtr .num (.t 9) (.c (.int .i64 4000))⟩])
        (.cond 10
         (.seq
          (.reg [⟨some 2, none, .mv (.c (.int .i64 2))⟩])
          .ret)
         .skip))
       (.seq
        (.reg [⟨some 12, none, .bin .eql .num (.t 4) (.c (.int .i64 6))⟩,
          ⟨some 11, none, .mv (.t 12)⟩])
        (.cond 11
         (.seq
          (.seq
           (.reg [⟨some 13, none, .fa (.t 1) 3⟩,
             ⟨some 14, none, .load (.t 13) 1 false⟩,
             ⟨some 15, none, .len false (.t 14)⟩,
             ⟨some 16, none, .bin .gtr .num (.t 15) (.c (.int .i64 24))⟩])
           (.cond 16
            (.seq
             (.reg [⟨some 2, none, .mv (.c (.int .i64 2))⟩])
             .ret)
            .skip))
          (.seq
           (.reg [⟨some 17, none, .fa (.t 1) 3⟩,
             ⟨some 18, none, .load (.t 17) 1 false⟩,
             ⟨some 19, none, .call 19 128 [(.t 18)]⟩,
             ⟨some 2, none, .mv (.t 19)⟩])
           .ret))
         (.seq
          (.reg [⟨some 21, none, .bin .eql .num (.t 4) (.c (.int .i64 7))⟩,
            ⟨some 20, none, .mv (.t 21)⟩])
          (.cond 20
           (.seq
            (.seq
             (.reg [⟨some 22, none, .fa (.t 1) 3⟩,
               ⟨some 23, none, .load (.t 22) 1 false⟩,
               ⟨some 24, none, .len false (.t 23)⟩,
               ⟨some 25, none, .bin .neq .num (.t 24) (.c (.int .i64 1))⟩])
             (.cond 25
              (.seq
               (.reg [⟨some 2, none, .mv (.c (.int .i64 3))⟩])
               .ret)
              .skip))
            (.seq
             (.reg [⟨some 26, none, .fa (.t 1) 3⟩,
               ⟨some 27, none, .load (.t 26) 1 false⟩,
               ⟨some 28, none, .call 28 128 [(.t 27)]⟩,
               ⟨some 2, none, .mv (.t 28)⟩])
             .ret))
           (.seq
            (.seq
             (.reg [⟨some 30, none, .bin .eql .num (.t 4) (.c (.int .i64 8))⟩,
               ⟨some 29, none, .mv (.t 30)⟩])
             (.cond 29
              .skip
              (.reg [⟨some 31, none, .bin .eql .num (.t 4) (.c (.int .i64 9))⟩,
                ⟨some 29, none, .mv (.t 31)⟩])))
            (.cond 29
             (.seq
              (.seq
               (.reg [⟨some 32, none, .fa (.t 1) 3⟩,
                 ⟨some 33, none, .load (.t 32) 1 false⟩,
                 ⟨some 34, none, .len false (.t 33)⟩,
                 ⟨some 35, none, .bin .gtr .num (.t 34) (.c (.int .i64 200))⟩])
               (.cond 35
                (.seq
                 (.reg [⟨some 2, none, .mv (.c (.int .i64 2))⟩])
                 .ret)
                .skip))
              (.seq
               (.reg [⟨some 36, none, .load (.t 1) 4 true⟩,
                 ⟨some 37, none, .call 37 129 [(.t 36)]⟩,
                 ⟨some 2, none, .mv (.t 37)⟩])
               .ret))
             .skip))))))))))
   (.seq
    (.reg [⟨some 2, none, .mv (.c (.int .i64 0))⟩])
    .ret)))⟩

/-- value.node -/
def ir77 : Fn TT := ⟨59, [.t 4],
 (.seq
  (.reg [⟨some 2, none, .box 2 (.t 0)⟩,
    ⟨some 4, none, .mv (.c (.int .i64 0))⟩])
  (.seq
   (.block 0
    (.seq
     (.reg [⟨some 10, none, .fa (.t 2) 0⟩,
       ⟨some 11, none, .load (.t 10) 1 false⟩,
       ⟨some 12, none, .bin .lss .num (.t 11) (.c (.int .i64 0))⟩,
       ⟨some 13, none, .mv (.t 12)⟩,
       ⟨some 14, (some (13, false)), .fa (.t 2) 0⟩,
       ⟨some 15, (some (13, false)), .load (.t 14) 1 false⟩,
       ⟨some 16, (some (13, false)), .bin .geq .num (.t 15) (.c (.int .i64 12))⟩,
       ⟨some 17, none, .pick (.t 13) (.c (.bool true)) (.t 16)⟩,
       ⟨some 18, none, .mv (.t 17)⟩,
       ⟨some 19, (some (18, false)), .fa (.t 2) 0⟩,
       ⟨some 20, (some (18, false)), .load (.t 19) 1 false⟩,
       ⟨some 21, (some (18, false)), .bin .eql .num (.t 20) (.c (.int .i64 10))⟩,
       ⟨some 22, none, .pick (.t 18) (.c (.bool true)) (.t 21)⟩,
       ⟨some 23, none, .mv (.t 22)⟩,
       ⟨some 24, (some (23, false)), .fa (.t 2) 0⟩,
       ⟨some 25, (some (23, false)), .load (.t 24) 1 false⟩,
       ⟨some 26, (some (23, false)), .bin .eql .num (.t 25) (.c (.int .i64 11))⟩,
       ⟨some 27, (some (23, false)), .mv (.t 26)⟩,
       ⟨some 28, (some (27, true)), .mv (.t 1)⟩,
       ⟨some 29, (some (27, true)), .un .not (.t 28)⟩,
       ⟨some 30, (some (23, false)), .pick (.t 27) (.t 29) (.c (.bool false))⟩,
       ⟨some 31, none, .pick (.t 23) (.c (.bool true)) (.t 30)⟩,
       ⟨some 32, none, .mv (.t 31)⟩,
       ⟨some 33, (some (32, false)), .load (.t 2) 4 true⟩,
       ⟨some 34, (some (32, false)), .call 34 99 [(.t 33)]⟩,
       ⟨some 35, none, .pick (.t 32) (.c (.bool true)) (.t 34)⟩,
       ⟨some 9, none, .mv (.t 35)⟩])
     (.cond 9
      (.seq
       (.reg [⟨some 4, none, .mv (.c (.int .i64 3))⟩])
       .ret)
      (.seq
       (.reg [⟨some 37, none, .load (.t 2) 4 true⟩,
         ⟨some 38, none, .call 38 100 [(.t 37)]⟩,
         ⟨some 39, none, .un .not (.t 38)⟩,
         ⟨some 36, none, .mv (.t 39)⟩])
       (.cond 36
        (.seq
         (.reg [⟨some 4, none, .mv (.c (.int .i64 11))⟩])
         .ret)
        .skip)))))
   (.seq
    (.seq
     (.reg [⟨some 40, none, .load (.t 2) 4 true⟩,
       ⟨some 41, none, .call 41 101 [(.t 40)]⟩,
       ⟨some 5, none, .mv (.t 41)⟩])
     (.seq
      (.reg [⟨some 42, none, .mv (.t 5)⟩,
        ⟨some 43, none, .bin .neq .num (.t 42) (.c (.int .i64 0))⟩])
      (.cond 43
       (.seq
        (.reg [⟨some 44, none, .mv (.t 5)⟩,
          ⟨some 4, none, .mv (.t 44)⟩])
        .ret)
       .skip)))
    (.seq
     (.seq
      (.reg [⟨some 45, none, .fa (.t 2) 3⟩,
        ⟨some 46, none, .load (.t 45) 1 false⟩,
        ⟨some 47, none, .len false (.t 46)⟩,
        ⟨some 48, none, .mv (.c (.int .i64 0))⟩])
      (.block 1
       (.loop (.keep [46, 47, 48] []
        (.seq
         (.reg [⟨some 49, none, .bin .lss .num (.t 48) (.t 47)⟩])
         (.seq
          (.cond 49
           .skip
           (.exit 1))
          (.seq
           (.block 2
            (.seq
             (.reg [⟨some 50, none, .idxA (.t 46) (.t 48) 5⟩,
               ⟨some 51, none, .load (.t 50) 5 true⟩,
               ⟨some 7, none, .alloc 7 [.str ⟨#[]⟩, .int .i64 0, .int .i64 0, .str ⟨#[]⟩, .isl .fld []]⟩,
               ⟨none, none, .store (.t 7) (.t 51) 5⟩])
             (.seq
              (.reg [⟨some 52, none, .fa (.t 7) 1⟩,
                ⟨some 53, none, .load (.t 52) 4 true⟩,
                ⟨some 54, none, .call 54 77 [(.t 53), (.c (.bool false))]⟩,
                ⟨some 8, none, .mv (.t 54)⟩])
              (.seq
               (.reg [⟨some 55, none, .mv (.t 8)⟩,
                 ⟨some 56, none, .bin .neq .num (.t 55) (.c (.int .i64 0))⟩])
               (.cond 56
                (.seq
                 (.reg [⟨some 57, none, .mv (.t 8)⟩,
                   ⟨some 4, none, .mv (.t 57)⟩])
                 .ret)
                .skip)))))
           (.reg [⟨some 58, none, .bin .add .num (.t 48) (.c (.int .i64 1))⟩,
             ⟨some 48, none, .mv (.t 58)⟩]))))))))
     (.seq
      (.reg [⟨some 4, none, .mv (.c (.int .i64 0))⟩])
      .ret)))))⟩

/-- value.Check -/
def ir51 : Fn TT := ⟨13, [.t 2],
 (.seq
  (.reg [⟨some 1, none, .box 1 (.t 0)⟩,
    ⟨some 2, none, .mv (.c (.int .i64 0))⟩])
  (.seq
   (.seq
    (.reg [⟨some 3, none, .load (.t 1) 4 true⟩,
      ⟨some 4, none, .call 4 75 [(.t 3)]⟩,
      ⟨some 5, none, .bin .gtr .num (.t 4) (.c (.int .i64 2000))⟩,
      ⟨some 6, none, .mv (.t 5)⟩,
      ⟨some 7, (some (6, false)), .load (.t 1) 4 true⟩,
      ⟨some 8, (some (6, false)), .call 8 76 [(.t 7)]⟩,
      ⟨some 9, (some (6, false)), .bin .gtr .num (.t 8) (.c (.int .i64 40))⟩,
      ⟨some 10, none, .pick (.t 6) (.c (.bool true)) (.t 9)⟩])
    (.cond 10
     (.seq
      (.reg [⟨some 2, none, .mv (.c (.int .i64 2))⟩])
      .ret)
     .skip))
   (.seq
    (.reg [⟨some 11, none, .load (.t 1) 4 true⟩,
      ⟨some 12, none, .call 12 77 [(.t 11), (.c (.bool true))]⟩,
      ⟨some 2, none, .mv (.t 12)⟩])
    .ret)))⟩

/-- clapkeep3.num -/
def ir44 : Fn TT := ⟨5, [.cell 2 4 true],
 (.seq
  (.reg [⟨some 2, none, .alloc 2 [.int .i64 0, .int .i64 0, .str ⟨#[]⟩, .isl .fld []]⟩])
  (.seq
   (.reg [⟨some 3, none, .mv (.t 0)⟩,
     ⟨some 4, none, .build [.int .i64 0, .int .i64 0, .str ⟨#[]⟩, .isl .fld []] [((0, 1), (.c (.int .i64 2))), ((1, 1), (.t 3))]⟩,
     ⟨none, none, .store (.t 2) (.t 4) 4⟩])
   .ret))⟩

/-- clapkeep3.rec -/
def ir30 : Fn TT := ⟨13, [.cell 4 4 true],
 (.seq
  (.reg [⟨some 4, none, .alloc 4 [.int .i64 0, .int .i64 0, .str ⟨#[]⟩, .isl .fld []]⟩])
  (.seq
   (.reg [⟨some 5, none, .mv (.t 0)⟩,
     ⟨some 6, none, .call 6 44 [(.t 5)]⟩,
     ⟨some 7, none, .build [.str ⟨#[]⟩, .int .i64 0, .int .i64 0, .str ⟨#[]⟩, .isl .fld []] [((0, 1), (.c (.str ⟨#[97]⟩))), ((1, 4), (.t 6))]⟩,
     ⟨some 8, none, .mv (.t 1)⟩,
     ⟨some 9, none, .call 9 44 [(.t 8)]⟩,
     ⟨some 10, none, .build [.str ⟨#[]⟩, .int .i64 0, .int .i64 0, .str ⟨#[]⟩, .isl .fld []] [((0, 1), (.c (.str ⟨#[98]⟩))), ((1, 4), (.t 9))]⟩,
     ⟨some 11, none, .bsl .fld [(.t 7), (.t 10)]⟩,
     ⟨some 12, none, .build [.int .i64 0, .int .i64 0, .str ⟨#[]⟩, .isl .fld []] [((0, 1), (.c (.int .i64 6))), ((3, 1), (.t 11))]⟩,
     ⟨none, none, .store (.t 4) (.t 12) 4⟩])
   .ret))⟩

/-- clapmake.Below -/
def ir26 : Fn TT := ⟨14, [.t 4],
 (.seq
  (.reg [⟨some 4, none, .mv (.c (.int .i64 0))⟩])
  (.seq
   (.seq
    (.reg [⟨some 5, none, .mv (.t 0)⟩,
      ⟨some 6, none, .mv (.t 1)⟩,
      ⟨some 7, none, .bin .rem .num (.t 5) (.t 6)⟩,
      ⟨some 0, none, .mv (.t 7)⟩])
    (.seq
     (.reg [⟨some 8, none, .mv (.t 0)⟩,
       ⟨some 9, none, .bin .lss .num (.t 8) (.c (.int .i64 0))⟩])
     (.cond 9
      (.reg [⟨some 10, none, .mv (.t 0)⟩,
        ⟨some 11, none, .mv (.t 1)⟩,
        ⟨some 12, none, .bin .add .num (.t 10) (.t 11)⟩,
        ⟨some 0, none, .mv (.t 12)⟩])
      .skip)))
   (.seq
    (.reg [⟨some 13, none, .mv (.t 0)⟩,
      ⟨some 4, none, .mv (.t 13)⟩])
    .ret)))⟩

/-- clapkeep3.list -/
def ir8 : Fn TT := ⟨32, [.cell 2 4 true],
 (.seq
  (.reg [⟨some 2, none, .alloc 2 [.int .i64 0, .int .i64 0, .str ⟨#[]⟩, .isl .fld []]⟩])
  (.seq
   (.reg [⟨some 6, none, .build [.int .i64 0, .int .i64 0, .str ⟨#[]⟩, .nils] [((0, 1), (.c (.int .i64 8)))]⟩,
     ⟨some 3, none, .alloc 3 [.int .i64 0, .int .i64 0, .str ⟨#[]⟩, .nils]⟩,
     ⟨none, none, .store (.t 3) (.t 6) 4⟩])
   (.seq
    (.seq
     (.reg [⟨some 7, none, .mv (.t 0)⟩,
       ⟨some 8, none, .mv (.t 0)⟩,
       ⟨some 9, none, .len false (.t 8)⟩,
       ⟨some 10, none, .mn [(.t 9), (.c (.int .i64 7))]⟩,
       ⟨some 11, none, .slc 1 (.t 7) none (some (.t 10))⟩,
       ⟨some 12, none, .len false (.t 11)⟩,
       ⟨some 13, none, .mv (.c (.int .i64 0))⟩])
     (.block 0
      (.ownc (.s 3) 3 .fld (.sub (.s 3) 3) (.loop (.keep [2, 3, 11, 12, 13] [.s 2, .s 3, (.sub (.s 3) 3)]
       (.seq
        (.reg [⟨some 14, none, .bin .lss .num (.t 13) (.t 12)⟩])
        (.seq
         (.cond 14
          .skip
          (.exit 0))
         (.seq
          (.block 1
           (.seq
            (.reg [⟨some 15, none, .idxA (.t 11) (.t 13) 1⟩,
              ⟨some 16, none, .load (.t 15) 1 false⟩,
              ⟨some 5, none, .mv (.t 16)⟩])
            (.seq
             (.reg [⟨some 17, none, .mv (.t 5)⟩,
               ⟨some 18, none, .call 18 26 [(.t 17), (.c (.int .i64 9))]⟩,
               ⟨some 5, none, .mv (.t 18)⟩])
             (.drw [(.sub (.s 3) 3)] (ol [0, 1, 2, 3, 4, 5, 6, 7, 8, 9, 10, 11]) [11] [0, 1, 2, 3, 4, 5, 7, 10] [⟨some 19, none, .fa (.t 3) 3⟩,
               ⟨some 20, none, .load (.t 19) 1 false⟩,
               ⟨some 21, none, .mv (.t 5)⟩,
               ⟨some 22, none, .bin .quo .num (.t 21) (.c (.int .i64 3))⟩,
               ⟨some 23, none, .mv (.t 5)⟩,
               ⟨some 24, none, .bin .rem .num (.t 23) (.c (.int .i64 3))⟩,
               ⟨some 25, none, .call 25 30 [(.t 22), (.t 24)]⟩,
               ⟨some 26, none, .build [.str ⟨#[]⟩, .int .i64 0, .int .i64 0, .str ⟨#[]⟩, .isl .fld []] [((1, 4), (.t 25))]⟩,
               ⟨some 27, none, .bsl .fld [(.t 26)]⟩,
               ⟨some 28, none, .app 28 .fld 68719476736 (.t 20) (.t 27)⟩,
               ⟨some 29, none, .fa (.t 3) 3⟩,
               ⟨none, none, .store (.t 29) (.t 28) 1⟩]))))
          (.keep [2, 3, 11, 12, 13] [.s 2, .s 3, .s 28] (.ownc (.s 3) 3 .fld (.sub (.s 3) 3) (.reg [⟨some 30, none, .bin .add .num (.t 13) (.c (.int .i64 1))⟩,
            ⟨some 13, none, .mv (.t 30)⟩])))))))))))
    (.seq
     (.fzc (.s 3) 3 (.reg [⟨some 31, none, .load (.t 3) 4 true⟩,
       ⟨none, none, .store (.t 2) (.t 31) 4⟩]))
     .ret))))⟩

/-- align.check -/
def ir31 : Fn TT := ⟨25, [.t 4],
 (.seq
  (.reg [⟨some 2, none, .box 2 (.t 0)⟩,
    ⟨some 3, none, .box 3 (.t 1)⟩,
    ⟨some 4, none, .mv (.c (.int .i64 0))⟩])
  (.seq
   (.seq
    (.reg [⟨some 8, none, .load (.t 2) 4 true⟩,
      ⟨some 9, none, .load (.t 3) 4 true⟩,
      ⟨some 10, none, .bsl .val [(.t 8), (.t 9)]⟩,
      ⟨some 11, none, .len false (.t 10)⟩,
      ⟨some 12, none, .mv (.c (.int .i64 0))⟩])
    (.block 0
     (.loop (.keep [10, 11, 12] []
      (.seq
       (.reg [⟨some 13, none, .bin .lss .num (.t 12) (.t 11)⟩])
       (.seq
        (.cond 13
         .skip
         (.exit 0))
        (.seq
         (.block 1
          (.seq
           (.reg [⟨some 14, none, .idxA (.t 10) (.t 12) 4⟩,
             ⟨some 15, none, .load (.t 14) 4 true⟩,
             ⟨some 6, none, .alloc 6 [.int .i64 0, .int .i64 0, .str ⟨#[]⟩, .isl .fld []]⟩,
             ⟨none, none, .store (.t 6) (.t 15) 4⟩])
           (.seq
            (.seq
             (.reg [⟨some 16, none, .load (.t 6) 4 true⟩,
               ⟨some 17, none, .call 17 51 [(.t 16)]⟩,
               ⟨some 7, none, .mv (.t 17)⟩])
             (.seq
              (.reg [⟨some 18, none, .mv (.t 7)⟩,
                ⟨some 19, none, .bin .neq .num (.t 18) (.c (.int .i64 0))⟩])
              (.cond 19
               (.seq
                (.reg [⟨some 20, none, .mv (.t 7)⟩,
                  ⟨some 4, none, .mv (.t 20)⟩])
                .ret)
               .skip)))
            (.seq
             (.reg [⟨some 21, none, .fa (.t 6) 0⟩,
               ⟨some 22, none, .load (.t 21) 1 false⟩,
               ⟨some 23, none, .bin .neq .num (.t 22) (.c (.int .i64 8))⟩])
             (.cond 23
              (.seq
               (.reg [⟨some 4, none, .mv (.c (.int .i64 8))⟩])
               .ret)
              .skip)))))
         (.reg [⟨some 24, none, .bin .add .num (.t 12) (.c (.int .i64 1))⟩,
           ⟨some 12, none, .mv (.t 24)⟩]))))))))
   (.seq
    (.reg [⟨some 4, none, .mv (.c (.int .i64 0))⟩])
    .ret)))⟩

/-- align.Cost -/
def ir33 : Fn TT := ⟨60, [.t 4],
 (.seq
  (.reg [⟨some 2, none, .box 2 (.t 0)⟩,
    ⟨some 3, none, .box 3 (.t 1)⟩,
    ⟨some 4, none, .mv (.c (.int .i64 0))⟩])
  (.seq
   (.seq
    (.reg [⟨some 8, none, .load (.t 2) 4 true⟩,
      ⟨some 9, none, .load (.t 3) 4 true⟩,
      ⟨some 10, none, .call 10 11 [(.t 8), (.t 9)]⟩])
    (.cond 10
     (.seq
      (.reg [⟨some 4, none, .mv (.c (.int .i64 0))⟩])
      .ret)
     .skip))
   (.seq
    (.seq
     (.reg [⟨some 11, none, .fa (.t 2) 0⟩,
       ⟨some 12, none, .load (.t 11) 1 false⟩,
       ⟨some 13, none, .bin .neq .num (.t 12) (.c (.int .i64 6))⟩,
       ⟨some 14, none, .mv (.t 13)⟩,
       ⟨some 15, (some (14, false)), .fa (.t 3) 0⟩,
       ⟨some 16, (some (14, false)), .load (.t 15) 1 false⟩,
       ⟨some 17, (some (14, false)), .bin .neq .num (.t 16) (.c (.int .i64 6))⟩,
       ⟨some 18, none, .pick (.t 14) (.c (.bool true)) (.t 17)⟩,
       ⟨some 19, none, .mv (.t 18)⟩,
       ⟨some 20, (some (19, false)), .fa (.t 2) 3⟩,
       ⟨some 21, (some (19, false)), .load (.t 20) 1 false⟩,
       ⟨some 22, (some (19, false)), .len false (.t 21)⟩,
       ⟨some 23, (some (19, false)), .fa (.t 3) 3⟩,
       ⟨some 24, (some (19, false)), .load (.t 23) 1 false⟩,
       ⟨some 25, (some (19, false)), .len false (.t 24)⟩,
       ⟨some 26, (some (19, false)), .bin .neq .num (.t 22) (.t 25)⟩,
       ⟨some 27, none, .pick (.t 19) (.c (.bool true)) (.t 26)⟩])
     (.cond 27
      (.seq
       (.reg [⟨some 4, none, .mv (.c (.int .i64 3))⟩])
       .ret)
      .skip))
    (.seq
     (.reg [⟨some 5, none, .mv (.c (.int .i64 0))⟩])
     (.seq
      (.seq
       (.reg [⟨some 28, none, .fa (.t 2) 3⟩,
         ⟨some 29, none, .load (.t 28) 1 false⟩,
         ⟨some 30, none, .len false (.t 29)⟩,
         ⟨some 31, none, .mv (.c (.int .i64 0))⟩])
       (.block 0
        (.loop (.keep [3, 5, 29, 30, 31] [.s 3]
         (.seq
          (.reg [⟨some 32, none, .bin .lss .num (.t 31) (.t 30)⟩])
          (.seq
           (.cond 32
            .skip
            (.exit 0))
           (.seq
            (.block 1
             (.seq
              (.reg [⟨some 33, none, .mv (.t 31)⟩,
                ⟨some 34, none, .idxA (.t 29) (.t 31) 5⟩,
                ⟨some 35, none, .load (.t 34) 5 true⟩,
                ⟨some 7, none, .alloc 7 [.str ⟨#[]⟩, .int .i64 0, .int .i64 0, .str ⟨#[]⟩, .isl .fld []]⟩,
                ⟨some 6, none, .mv (.t 33)⟩,
                ⟨none, none, .store (.t 7) (.t 35) 5⟩])
              (.seq
               (.seq
                (.drw [] (ol [0, 1, 2, 3, 4, 5, 6, 7, 8]) [] [0, 1, 2, 3, 4, 5, 6, 7, 8] [⟨some 36, none, .fa (.t 7) 0⟩,
                  ⟨some 37, none, .load (.t 36) 1 false⟩,
                  ⟨some 38, none, .fa (.t 3) 3⟩,
                  ⟨some 39, none, .load (.t 38) 1 false⟩,
                  ⟨some 40, none, .mv (.t 6)⟩,
                  ⟨some 41, none, .idxA (.t 39) (.t 40) 5⟩,
                  ⟨some 42, none, .fa (.t 41) 0⟩,
                  ⟨some 43, none, .load (.t 42) 1 false⟩,
                  ⟨some 44, none, .bin .neq .str (.t 37) (.t 43)⟩])
                (.cond 44
                 (.seq
                  (.reg [⟨some 4, none, .mv (.c (.int .i64 3))⟩])
                  .ret)
                 .skip))
               (.seq
                (.drw [] (ol [0, 1, 2, 3, 4, 5, 6, 7, 8, 9]) [] [0, 1, 2, 3, 4, 5, 6, 7, 9] [⟨some 45, none, .fa (.t 7) 1⟩,
                  ⟨some 46, none, .load (.t 45) 4 true⟩,
                  ⟨some 47, none, .fa (.t 3) 3⟩,
                  ⟨some 48, none, .load (.t 47) 1 false⟩,
                  ⟨some 49, none, .mv (.t 6)⟩,
                  ⟨some 50, none, .idxA (.t 48) (.t 49) 5⟩,
                  ⟨some 51, none, .fa (.t 50) 1⟩,
                  ⟨some 52, none, .load (.t 51) 4 true⟩,
                  ⟨some 53, none, .call 53 11 [(.t 46), (.t 52)]⟩,
                  ⟨some 54, none, .un .not (.t 53)⟩])
                (.cond 54
                 (.reg [⟨some 55, none, .mv (.t 5)⟩,
                   ⟨some 56, none, .bin .add .num (.t 55) (.c (.int .i64 1))⟩,
                   ⟨some 5, none, .mv (.t 56)⟩])
                 .skip)))))
            (.reg [⟨some 57, none, .bin .add .num (.t 31) (.c (.int .i64 1))⟩,
              ⟨some 31, none, .mv (.t 57)⟩]))))))))
      (.seq
       (.reg [⟨some 58, none, .mv (.t 5)⟩,
         ⟨some 59, none, .mn [(.t 58), (.c (.int .i64 3))]⟩,
         ⟨some 4, none, .mv (.t 59)⟩])
       .ret))))))⟩

/-- value.Name -/
def ir132 : Fn TT := ⟨49, [.t 2],
 (.seq
  (.reg [⟨some 2, none, .mv (.c (.bool false))⟩])
  (.seq
   (.seq
    (.reg [⟨some 5, none, .mv (.t 0)⟩,
      ⟨some 6, none, .bin .eql .str (.t 5) (.c (.str ⟨#[]⟩))⟩,
      ⟨some 7, none, .mv (.t 6)⟩,
      ⟨some 8, (some (7, false)), .mv (.t 0)⟩,
      ⟨some 9, (some (7, false)), .len true (.t 8)⟩,
      ⟨some 10, (some (7, false)), .bin .gtr .num (.t 9) (.c (.int .i64 16))⟩,
      ⟨some 11, none, .pick (.t 7) (.c (.bool true)) (.t 10)⟩,
      ⟨some 12, none, .mv (.t 11)⟩,
      ⟨some 13, (some (12, false)), .mv (.t 0)⟩,
      ⟨some 14, (some (12, false)), .idxS (.t 13) (.c (.int .i64 0))⟩,
      ⟨some 15, (some (12, false)), .bin .lss .num (.t 14) (.c (.int .u8 97))⟩,
      ⟨some 16, none, .pick (.t 12) (.c (.bool true)) (.t 15)⟩,
      ⟨some 17, none, .mv (.t 16)⟩,
      ⟨some 18, (some (17, false)), .mv (.t 0)⟩,
      ⟨some 19, (some (17, false)), .idxS (.t 18) (.c (.int .i64 0))⟩,
      ⟨some 20, (some (17, false)), .bin .gtr .num (.t 19) (.c (.int .u8 122))⟩,
      ⟨some 21, none, .pick (.t 17) (.c (.bool true)) (.t 20)⟩])
    (.cond 21
     (.seq
      (.reg [⟨some 2, none, .mv (.c (.bool false))⟩])
      .ret)
     .skip))
   (.seq
    (.seq
     (.reg [⟨some 22, none, .mv (.t 0)⟩,
       ⟨some 23, none, .s2b (.t 22)⟩,
       ⟨some 24, none, .len false (.t 23)⟩,
       ⟨some 25, none, .mv (.c (.int .i64 0))⟩])
     (.block 0
      (.loop (.keep [23, 24, 25] []
       (.seq
        (.reg [⟨some 26, none, .bin .lss .num (.t 25) (.t 24)⟩])
        (.seq
         (.cond 26
          .skip
          (.exit 0))
         (.seq
          (.block 1
           (.seq
            (.reg [⟨some 27, none, .idxA (.t 23) (.t 25) 1⟩,
              ⟨some 28, none, .load (.t 27) 1 false⟩,
              ⟨some 4, none, .mv (.t 28)⟩])
            (.seq
             (.reg [⟨some 29, none, .mv (.t 4)⟩,
               ⟨some 30, none, .bin .geq .num (.t 29) (.c (.int .u8 97))⟩,
               ⟨some 31, none, .mv (.t 30)⟩,
               ⟨some 32, (some (31, true)), .mv (.t 4)⟩,
               ⟨some 33, (some (31, true)), .bin .leq .num (.t 32) (.c (.int .u8 122))⟩,
               ⟨some 34, none, .pick (.t 31) (.t 33) (.c (.bool false))⟩,
               ⟨some 35, none, .mv (.t 34)⟩,
               ⟨some 36, (some (35, false)), .mv (.t 4)⟩,
               ⟨some 37, (some (35, false)), .bin .geq .num (.t 36) (.c (.int .u8 48))⟩,
               ⟨some 38, (some (35, false)), .mv (.t 37)⟩,
               ⟨some 39, (some (38, true)), .mv (.t 4)⟩,
               ⟨some 40, (some (38, true)), .bin .leq .num (.t 39) (.c (.int .u8 57))⟩,
               ⟨some 41, (some (35, false)), .pick (.t 38) (.t 40) (.c (.bool false))⟩,
               ⟨some 42, none, .pick (.t 35) (.c (.bool true)) (.t 41)⟩,
               ⟨some 43, none, .mv (.t 42)⟩,
               ⟨some 44, (some (43, false)), .mv (.t 4)⟩,
               ⟨some 45, (some (43, false)), .bin .eql .num (.t 44) (.c (.int .u8 45))⟩,
               ⟨some 46, none, .pick (.t 43) (.c (.bool true)) (.t 45)⟩,
               ⟨some 47, none, .un .not (.t 46)⟩])
             (.cond 47
              (.seq
               (.reg [⟨some 2, none, .mv (.c (.bool false))⟩])
               .ret)
              .skip))))
          (.reg [⟨some 48, none, .bin .add .num (.t 25) (.c (.int .i64 1))⟩,
            ⟨some 25, none, .mv (.t 48)⟩]))))))))
    (.seq
     (.reg [⟨some 2, none, .mv (.c (.bool true))⟩])
     .ret))))⟩

end Go.Clap
