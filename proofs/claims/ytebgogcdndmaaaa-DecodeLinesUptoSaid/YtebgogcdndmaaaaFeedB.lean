import Derived.Test.YtebgogcdndmaaaaFeedA
set_option linter.unusedVariables false
namespace Go.Dc.Ka
open Go.Proofs Go.RowKit
set_option maxRecDepth 100000
theorem round24 (R : Nat → RoRow) (a : Int) (s : List UInt8) (i : Nat) (k : Exit → St → Prop) : rnd (base R) 1000 24 (loopOf fi24 0) (feedS a s i) k =
    (bif decide ((↑i : Int) < (↑s.length : Int)) then
    bif true && decide ((↑i : Int) < (↑s.length : Int)) then
      bif decide (0 + (↑i : Int).toNat < s.length) then
        bif decide ((↑(s.getD (0 + (↑i : Int).toNat) 0).toNat : Int) ≥ 128) then
          bif decide ((↑(s.getD (0 + (↑i : Int).toNat) 0).toNat : Int) < 160) then
            bif
                decide (0 ≤ IntKind.u8.wrap ((↑(s.getD (0 + (↑i : Int).toNat) 0).toNat : Int) - 128)) &&
                  decide (IntKind.u8.wrap ((↑(s.getD (0 + (↑i : Int).toNat) 0).toNat : Int) - 128) < 32) then
              bif
                  decide
                    (0 + (IntKind.u8.wrap ((↑(s.getD (0 + (↑i : Int).toNat) 0).toNat : Int) - 128)).toNat * 1 < 32) then
                bif
                    decide (0 + i ≤ i) &&
                      (true &&
                        (true && decide (((Src.gen i fun j => outF a s (0 + j)).len + 1) * 16 ≤ 140737488355328))) then
                  k Exit.normal
                    {
                      tmps :=
                        [AV.ptr false 0 0 0, AV.str s, AV.any, AV.any, AV.nils, AV.nils, AV.ptr false 2 0 0, AV.any,
                          AV.int IntKind.u8 (↑(s.getD (0 + (↑i : Int).toNat) 0).toNat : Int), AV.any, AV.any, AV.any,
                          AV.any, AV.sl false 3 0 s.length .no, AV.int IntKind.i64 (↑s.length : Int),
                          AV.int IntKind.i64 (IntKind.i64.wrap ((↑i : Int) + 1)), AV.bool true,
                          AV.ptr false 3 (0 + (↑i : Int).toNat) 0,
                          AV.int IntKind.u8 (↑(s.getD (0 + (↑i : Int).toNat) 0).toNat : Int), AV.any, AV.any, AV.any,
                          AV.any, AV.any, AV.any, AV.any, AV.any, AV.bool false, AV.ptr false 0 0 0, AV.ptr false 0 0 0,
                          AV.ptr false 0 0 0, AV.bool false, AV.any, AV.any, AV.any, AV.bool true,
                          AV.int IntKind.u8 (↑(s.getD (0 + (↑i : Int).toNat) 0).toNat : Int),
                          AV.bool (decide ((↑(s.getD (0 + (↑i : Int).toNat) 0).toNat : Int) ≥ 128)), AV.bool true,
                          AV.int IntKind.u8 (↑(s.getD (0 + (↑i : Int).toNat) 0).toNat : Int),
                          AV.bool (decide ((↑(s.getD (0 + (↑i : Int).toNat) 0).toNat : Int) < 160)),
                          AV.bool (decide ((↑(s.getD (0 + (↑i : Int).toNat) 0).toNat : Int) < 160)), AV.ptr false 0 0 0,
                          AV.int IntKind.u8 (↑(s.getD (0 + (↑i : Int).toNat) 0).toNat : Int),
                          AV.int IntKind.u8 (IntKind.u8.wrap ((↑(s.getD (0 + (↑i : Int).toNat) 0).toNat : Int) - 128)),
                          AV.ptr false 2 0
                            (0 + (IntKind.u8.wrap ((↑(s.getD (0 + (↑i : Int).toNat) 0).toNat : Int) - 128)).toNat * 1),
                          AV.int IntKind.i64
                            ([8364, 129, 8218, 402, 8222, 8230, 8224, 8225, 710, 8240, 352, 8249, 338, 141, 381, 143,
                                  144, 8216, 8217, 8220, 8221, 8226, 8211, 8212, 732, 8482, 353, 8250, 339, 157, 382,
                                  376].getD
                              (0 + (IntKind.u8.wrap ((↑(s.getD (0 + (↑i : Int).toNat) 0).toNat : Int) - 128)).toNat * 1)
                              0),
                          AV.ptr false 0 0 0, AV.ptr false 0 0 0, AV.ptr false 0 0 1,
                          AV.int IntKind.i64 (a + (↑i : Int)), AV.tup [], AV.ptr false 0 0 0, AV.ptr false 0 0 0,
                          AV.ptr false 0 0 1, AV.int IntKind.i64 (a + (↑i : Int)),
                          AV.int IntKind.i64 (IntKind.i64.wrap (a + (↑i : Int) + 1)), AV.ptr false 0 0 0,
                          AV.ptr false 0 0 1, AV.int IntKind.i64 (IntKind.i64.wrap ((↑i : Int) + 1)), AV.any, AV.any,
                          AV.any, AV.any],
                      rows :=
                        [some
                            (Row.lst 62 9
                              [AV.agg
                                  [AV.bool false, AV.int IntKind.i64 (IntKind.i64.wrap (a + (↑i : Int) + 1)),
                                    AV.int IntKind.i64 0, AV.int IntKind.i64 0, AV.int IntKind.i64 0,
                                    AV.int IntKind.u8 0, AV.int IntKind.u8 0,
                                    AV.sl false 6 0 ((Src.gen i fun j => outF a s (0 + j)).len + 1) false, AV.nils]]),
                          some
                            (Row.lst 63 32
                              [AV.agg
                                  [AV.int IntKind.i64 8364, AV.int IntKind.i64 129, AV.int IntKind.i64 8218,
                                    AV.int IntKind.i64 402, AV.int IntKind.i64 8222, AV.int IntKind.i64 8230,
                                    AV.int IntKind.i64 8224, AV.int IntKind.i64 8225, AV.int IntKind.i64 710,
                                    AV.int IntKind.i64 8240, AV.int IntKind.i64 352, AV.int IntKind.i64 8249,
                                    AV.int IntKind.i64 338, AV.int IntKind.i64 141, AV.int IntKind.i64 381,
                                    AV.int IntKind.i64 143, AV.int IntKind.i64 144, AV.int IntKind.i64 8216,
                                    AV.int IntKind.i64 8217, AV.int IntKind.i64 8220, AV.int IntKind.i64 8221,
                                    AV.int IntKind.i64 8226, AV.int IntKind.i64 8211, AV.int IntKind.i64 8212,
                                    AV.int IntKind.i64 732, AV.int IntKind.i64 8482, AV.int IntKind.i64 353,
                                    AV.int IntKind.i64 8250, AV.int IntKind.i64 339, AV.int IntKind.i64 157,
                                    AV.int IntKind.i64 382, AV.int IntKind.i64 376]]),
                          some
                            (Row.lst 63 32
                              [AV.agg
                                  [AV.int IntKind.i64 8364, AV.int IntKind.i64 129, AV.int IntKind.i64 8218,
                                    AV.int IntKind.i64 402, AV.int IntKind.i64 8222, AV.int IntKind.i64 8230,
                                    AV.int IntKind.i64 8224, AV.int IntKind.i64 8225, AV.int IntKind.i64 710,
                                    AV.int IntKind.i64 8240, AV.int IntKind.i64 352, AV.int IntKind.i64 8249,
                                    AV.int IntKind.i64 338, AV.int IntKind.i64 141, AV.int IntKind.i64 381,
                                    AV.int IntKind.i64 143, AV.int IntKind.i64 144, AV.int IntKind.i64 8216,
                                    AV.int IntKind.i64 8217, AV.int IntKind.i64 8220, AV.int IntKind.i64 8221,
                                    AV.int IntKind.i64 8226, AV.int IntKind.i64 8211, AV.int IntKind.i64 8212,
                                    AV.int IntKind.i64 732, AV.int IntKind.i64 8482, AV.int IntKind.i64 353,
                                    AV.int IntKind.i64 8250, AV.int IntKind.i64 339, AV.int IntKind.i64 157,
                                    AV.int IntKind.i64 382, AV.int IntKind.i64 376]]),
                          some (Row.byt 5 s), none,
                          some
                            (Row.lst 38 2
                              [AV.agg
                                  [AV.int IntKind.i64
                                      ([8364, 129, 8218, 402, 8222, 8230, 8224, 8225, 710, 8240, 352, 8249, 338, 141,
                                            381, 143, 144, 8216, 8217, 8220, 8221, 8226, 8211, 8212, 732, 8482, 353,
                                            8250, 339, 157, 382, 376].getD
                                        (0 +
                                          (IntKind.u8.wrap
                                                ((↑(s.getD (0 + (↑i : Int).toNat) 0).toNat : Int) - 128)).toNat *
                                            1)
                                        0),
                                    AV.int IntKind.i64 (a + (↑i : Int))]]),
                          some
                            (Row.gen 38 2 ((Src.gen i fun j => outF a s (0 + j)).len + 1) fun j =>
                              bif j.blt (Src.gen i fun j => outF a s (0 + j)).len then
                                AV.agg
                                  [AV.int IntKind.i64 (winI (byteI s (0 + j))),
                                    AV.int IntKind.i64 (a + (↑(0 + j) : Int))]
                              else
                                (Src.lst
                                      [AV.agg
                                          [AV.int IntKind.i64
                                              ([8364, 129, 8218, 402, 8222, 8230, 8224, 8225, 710, 8240, 352, 8249, 338,
                                                    141, 381, 143, 144, 8216, 8217, 8220, 8221, 8226, 8211, 8212, 732,
                                                    8482, 353, 8250, 339, 157, 382, 376].getD
                                                (0 +
                                                  (IntKind.u8.wrap
                                                        ((↑(s.getD (0 + (↑i : Int).toNat) 0).toNat : Int) -
                                                          128)).toNat *
                                                    1)
                                                0),
                                            AV.int IntKind.i64 (a + (↑i : Int))]]).at_
                                  (j - (Src.gen i fun j => outF a s (0 + j)).len))] }
                else False
              else False
            else False
          else
            bif
                decide (0 + i ≤ i) &&
                  (true &&
                    (true && decide (((Src.gen i fun j => outF a s (0 + j)).len + 1) * 16 ≤ 140737488355328))) then
              k Exit.normal
                {
                  tmps :=
                    [AV.ptr false 0 0 0, AV.str s, AV.any, AV.any, AV.nils, AV.nils, AV.ptr false 2 0 0, AV.any,
                      AV.int IntKind.u8 (↑(s.getD (0 + (↑i : Int).toNat) 0).toNat : Int), AV.any, AV.any, AV.any,
                      AV.any, AV.sl false 3 0 s.length .no, AV.int IntKind.i64 (↑s.length : Int),
                      AV.int IntKind.i64 (IntKind.i64.wrap ((↑i : Int) + 1)), AV.bool true,
                      AV.ptr false 3 (0 + (↑i : Int).toNat) 0,
                      AV.int IntKind.u8 (↑(s.getD (0 + (↑i : Int).toNat) 0).toNat : Int), AV.ptr false 0 0 0,
                      AV.int IntKind.u8 (↑(s.getD (0 + (↑i : Int).toNat) 0).toNat : Int),
                      AV.int IntKind.i64 (IntKind.i64.wrap (↑(s.getD (0 + (↑i : Int).toNat) 0).toNat : Int)),
                      AV.ptr false 0 0 0, AV.ptr false 0 0 0, AV.ptr false 0 0 1, AV.int IntKind.i64 (a + (↑i : Int)),
                      AV.tup [], AV.bool false, AV.ptr false 0 0 0, AV.ptr false 0 0 0, AV.ptr false 0 0 0,
                      AV.bool false, AV.any, AV.any, AV.any, AV.bool false,
                      AV.int IntKind.u8 (↑(s.getD (0 + (↑i : Int).toNat) 0).toNat : Int),
                      AV.bool (decide ((↑(s.getD (0 + (↑i : Int).toNat) 0).toNat : Int) ≥ 128)), AV.bool true,
                      AV.int IntKind.u8 (↑(s.getD (0 + (↑i : Int).toNat) 0).toNat : Int),
                      AV.bool (decide ((↑(s.getD (0 + (↑i : Int).toNat) 0).toNat : Int) < 160)),
                      AV.bool (decide ((↑(s.getD (0 + (↑i : Int).toNat) 0).toNat : Int) < 160)), AV.any, AV.any, AV.any,
                      AV.any, AV.any, AV.any, AV.any, AV.any, AV.any, AV.any, AV.ptr false 0 0 0, AV.ptr false 0 0 0,
                      AV.ptr false 0 0 1, AV.int IntKind.i64 (a + (↑i : Int)),
                      AV.int IntKind.i64 (IntKind.i64.wrap (a + (↑i : Int) + 1)), AV.ptr false 0 0 0,
                      AV.ptr false 0 0 1, AV.int IntKind.i64 (IntKind.i64.wrap ((↑i : Int) + 1)), AV.any, AV.any,
                      AV.any, AV.any],
                  rows :=
                    [some
                        (Row.lst 62 9
                          [AV.agg
                              [AV.bool false, AV.int IntKind.i64 (IntKind.i64.wrap (a + (↑i : Int) + 1)),
                                AV.int IntKind.i64 0, AV.int IntKind.i64 0, AV.int IntKind.i64 0, AV.int IntKind.u8 0,
                                AV.int IntKind.u8 0,
                                AV.sl false 6 0 ((Src.gen i fun j => outF a s (0 + j)).len + 1) false, AV.nils]]),
                      some
                        (Row.lst 63 32
                          [AV.agg
                              [AV.int IntKind.i64 8364, AV.int IntKind.i64 129, AV.int IntKind.i64 8218,
                                AV.int IntKind.i64 402, AV.int IntKind.i64 8222, AV.int IntKind.i64 8230,
                                AV.int IntKind.i64 8224, AV.int IntKind.i64 8225, AV.int IntKind.i64 710,
                                AV.int IntKind.i64 8240, AV.int IntKind.i64 352, AV.int IntKind.i64 8249,
                                AV.int IntKind.i64 338, AV.int IntKind.i64 141, AV.int IntKind.i64 381,
                                AV.int IntKind.i64 143, AV.int IntKind.i64 144, AV.int IntKind.i64 8216,
                                AV.int IntKind.i64 8217, AV.int IntKind.i64 8220, AV.int IntKind.i64 8221,
                                AV.int IntKind.i64 8226, AV.int IntKind.i64 8211, AV.int IntKind.i64 8212,
                                AV.int IntKind.i64 732, AV.int IntKind.i64 8482, AV.int IntKind.i64 353,
                                AV.int IntKind.i64 8250, AV.int IntKind.i64 339, AV.int IntKind.i64 157,
                                AV.int IntKind.i64 382, AV.int IntKind.i64 376]]),
                      some
                        (Row.lst 63 32
                          [AV.agg
                              [AV.int IntKind.i64 8364, AV.int IntKind.i64 129, AV.int IntKind.i64 8218,
                                AV.int IntKind.i64 402, AV.int IntKind.i64 8222, AV.int IntKind.i64 8230,
                                AV.int IntKind.i64 8224, AV.int IntKind.i64 8225, AV.int IntKind.i64 710,
                                AV.int IntKind.i64 8240, AV.int IntKind.i64 352, AV.int IntKind.i64 8249,
                                AV.int IntKind.i64 338, AV.int IntKind.i64 141, AV.int IntKind.i64 381,
                                AV.int IntKind.i64 143, AV.int IntKind.i64 144, AV.int IntKind.i64 8216,
                                AV.int IntKind.i64 8217, AV.int IntKind.i64 8220, AV.int IntKind.i64 8221,
                                AV.int IntKind.i64 8226, AV.int IntKind.i64 8211, AV.int IntKind.i64 8212,
                                AV.int IntKind.i64 732, AV.int IntKind.i64 8482, AV.int IntKind.i64 353,
                                AV.int IntKind.i64 8250, AV.int IntKind.i64 339, AV.int IntKind.i64 157,
                                AV.int IntKind.i64 382, AV.int IntKind.i64 376]]),
                      some (Row.byt 5 s), none,
                      some
                        (Row.lst 38 2
                          [AV.agg
                              [AV.int IntKind.i64 (IntKind.i64.wrap (↑(s.getD (0 + (↑i : Int).toNat) 0).toNat : Int)),
                                AV.int IntKind.i64 (a + (↑i : Int))]]),
                      some
                        (Row.gen 38 2 ((Src.gen i fun j => outF a s (0 + j)).len + 1) fun j =>
                          bif j.blt (Src.gen i fun j => outF a s (0 + j)).len then
                            AV.agg
                              [AV.int IntKind.i64 (winI (byteI s (0 + j))), AV.int IntKind.i64 (a + (↑(0 + j) : Int))]
                          else
                            (Src.lst
                                  [AV.agg
                                      [AV.int IntKind.i64
                                          (IntKind.i64.wrap (↑(s.getD (0 + (↑i : Int).toNat) 0).toNat : Int)),
                                        AV.int IntKind.i64 (a + (↑i : Int))]]).at_
                              (j - (Src.gen i fun j => outF a s (0 + j)).len))] }
            else False
        else
          bif
              decide (0 + i ≤ i) &&
                (true && (true && decide (((Src.gen i fun j => outF a s (0 + j)).len + 1) * 16 ≤ 140737488355328))) then
            k Exit.normal
              {
                tmps :=
                  [AV.ptr false 0 0 0, AV.str s, AV.any, AV.any, AV.nils, AV.nils, AV.ptr false 2 0 0, AV.any,
                    AV.int IntKind.u8 (↑(s.getD (0 + (↑i : Int).toNat) 0).toNat : Int), AV.any, AV.any, AV.any, AV.any,
                    AV.sl false 3 0 s.length .no, AV.int IntKind.i64 (↑s.length : Int),
                    AV.int IntKind.i64 (IntKind.i64.wrap ((↑i : Int) + 1)), AV.bool true,
                    AV.ptr false 3 (0 + (↑i : Int).toNat) 0,
                    AV.int IntKind.u8 (↑(s.getD (0 + (↑i : Int).toNat) 0).toNat : Int), AV.ptr false 0 0 0,
                    AV.int IntKind.u8 (↑(s.getD (0 + (↑i : Int).toNat) 0).toNat : Int),
                    AV.int IntKind.i64 (IntKind.i64.wrap (↑(s.getD (0 + (↑i : Int).toNat) 0).toNat : Int)),
                    AV.ptr false 0 0 0, AV.ptr false 0 0 0, AV.ptr false 0 0 1, AV.int IntKind.i64 (a + (↑i : Int)),
                    AV.tup [], AV.bool false, AV.ptr false 0 0 0, AV.ptr false 0 0 0, AV.ptr false 0 0 0, AV.bool false,
                    AV.any, AV.any, AV.any, AV.bool false,
                    AV.int IntKind.u8 (↑(s.getD (0 + (↑i : Int).toNat) 0).toNat : Int),
                    AV.bool (decide ((↑(s.getD (0 + (↑i : Int).toNat) 0).toNat : Int) ≥ 128)), AV.bool false, AV.tup [],
                    AV.tup [], AV.bool false, AV.any, AV.any, AV.any, AV.any, AV.any, AV.any, AV.any, AV.any, AV.any,
                    AV.any, AV.ptr false 0 0 0, AV.ptr false 0 0 0, AV.ptr false 0 0 1,
                    AV.int IntKind.i64 (a + (↑i : Int)), AV.int IntKind.i64 (IntKind.i64.wrap (a + (↑i : Int) + 1)),
                    AV.ptr false 0 0 0, AV.ptr false 0 0 1, AV.int IntKind.i64 (IntKind.i64.wrap ((↑i : Int) + 1)),
                    AV.any, AV.any, AV.any, AV.any],
                rows :=
                  [some
                      (Row.lst 62 9
                        [AV.agg
                            [AV.bool false, AV.int IntKind.i64 (IntKind.i64.wrap (a + (↑i : Int) + 1)),
                              AV.int IntKind.i64 0, AV.int IntKind.i64 0, AV.int IntKind.i64 0, AV.int IntKind.u8 0,
                              AV.int IntKind.u8 0,
                              AV.sl false 6 0 ((Src.gen i fun j => outF a s (0 + j)).len + 1) false, AV.nils]]),
                    some
                      (Row.lst 63 32
                        [AV.agg
                            [AV.int IntKind.i64 8364, AV.int IntKind.i64 129, AV.int IntKind.i64 8218,
                              AV.int IntKind.i64 402, AV.int IntKind.i64 8222, AV.int IntKind.i64 8230,
                              AV.int IntKind.i64 8224, AV.int IntKind.i64 8225, AV.int IntKind.i64 710,
                              AV.int IntKind.i64 8240, AV.int IntKind.i64 352, AV.int IntKind.i64 8249,
                              AV.int IntKind.i64 338, AV.int IntKind.i64 141, AV.int IntKind.i64 381,
                              AV.int IntKind.i64 143, AV.int IntKind.i64 144, AV.int IntKind.i64 8216,
                              AV.int IntKind.i64 8217, AV.int IntKind.i64 8220, AV.int IntKind.i64 8221,
                              AV.int IntKind.i64 8226, AV.int IntKind.i64 8211, AV.int IntKind.i64 8212,
                              AV.int IntKind.i64 732, AV.int IntKind.i64 8482, AV.int IntKind.i64 353,
                              AV.int IntKind.i64 8250, AV.int IntKind.i64 339, AV.int IntKind.i64 157,
                              AV.int IntKind.i64 382, AV.int IntKind.i64 376]]),
                    some
                      (Row.lst 63 32
                        [AV.agg
                            [AV.int IntKind.i64 8364, AV.int IntKind.i64 129, AV.int IntKind.i64 8218,
                              AV.int IntKind.i64 402, AV.int IntKind.i64 8222, AV.int IntKind.i64 8230,
                              AV.int IntKind.i64 8224, AV.int IntKind.i64 8225, AV.int IntKind.i64 710,
                              AV.int IntKind.i64 8240, AV.int IntKind.i64 352, AV.int IntKind.i64 8249,
                              AV.int IntKind.i64 338, AV.int IntKind.i64 141, AV.int IntKind.i64 381,
                              AV.int IntKind.i64 143, AV.int IntKind.i64 144, AV.int IntKind.i64 8216,
                              AV.int IntKind.i64 8217, AV.int IntKind.i64 8220, AV.int IntKind.i64 8221,
                              AV.int IntKind.i64 8226, AV.int IntKind.i64 8211, AV.int IntKind.i64 8212,
                              AV.int IntKind.i64 732, AV.int IntKind.i64 8482, AV.int IntKind.i64 353,
                              AV.int IntKind.i64 8250, AV.int IntKind.i64 339, AV.int IntKind.i64 157,
                              AV.int IntKind.i64 382, AV.int IntKind.i64 376]]),
                    some (Row.byt 5 s), none,
                    some
                      (Row.lst 38 2
                        [AV.agg
                            [AV.int IntKind.i64 (IntKind.i64.wrap (↑(s.getD (0 + (↑i : Int).toNat) 0).toNat : Int)),
                              AV.int IntKind.i64 (a + (↑i : Int))]]),
                    some
                      (Row.gen 38 2 ((Src.gen i fun j => outF a s (0 + j)).len + 1) fun j =>
                        bif j.blt (Src.gen i fun j => outF a s (0 + j)).len then
                          AV.agg
                            [AV.int IntKind.i64 (winI (byteI s (0 + j))), AV.int IntKind.i64 (a + (↑(0 + j) : Int))]
                        else
                          (Src.lst
                                [AV.agg
                                    [AV.int IntKind.i64
                                        (IntKind.i64.wrap (↑(s.getD (0 + (↑i : Int).toNat) 0).toNat : Int)),
                                      AV.int IntKind.i64 (a + (↑i : Int))]]).at_
                            (j - (Src.gen i fun j => outF a s (0 + j)).len))] }
          else False
      else False
    else False
  else
    k (Exit.exit 0)
      {
        tmps :=
          [AV.ptr false 0 0 0, AV.str s, AV.any, AV.any, AV.nils, AV.nils, AV.ptr false 2 0 0, AV.any, AV.any, AV.any,
            AV.any, AV.any, AV.any, AV.sl false 3 0 s.length .no, AV.int IntKind.i64 (↑s.length : Int),
            AV.int IntKind.i64 (↑i : Int), AV.bool false, AV.any, AV.any, AV.any, AV.any, AV.any, AV.any, AV.any,
            AV.any, AV.any, AV.any, AV.any, AV.any, AV.any, AV.any, AV.any, AV.any, AV.any, AV.any, AV.any, AV.any,
            AV.any, AV.any, AV.any, AV.any, AV.any, AV.any, AV.any, AV.any, AV.any, AV.any, AV.any, AV.any, AV.any,
            AV.any, AV.any, AV.any, AV.any, AV.any, AV.any, AV.any, AV.any, AV.any, AV.any, AV.any, AV.any, AV.any,
            AV.any],
        rows :=
          [some
              (Row.lst 62 9
                [AV.agg
                    [AV.bool false, AV.int IntKind.i64 (a + (↑i : Int)), AV.int IntKind.i64 0, AV.int IntKind.i64 0,
                      AV.int IntKind.i64 0, AV.int IntKind.u8 0, AV.int IntKind.u8 0, AV.sl false 4 0 i .no,
                      AV.nils]]),
            some
              (Row.lst 63 32
                [AV.agg
                    [AV.int IntKind.i64 8364, AV.int IntKind.i64 129, AV.int IntKind.i64 8218, AV.int IntKind.i64 402,
                      AV.int IntKind.i64 8222, AV.int IntKind.i64 8230, AV.int IntKind.i64 8224,
                      AV.int IntKind.i64 8225, AV.int IntKind.i64 710, AV.int IntKind.i64 8240, AV.int IntKind.i64 352,
                      AV.int IntKind.i64 8249, AV.int IntKind.i64 338, AV.int IntKind.i64 141, AV.int IntKind.i64 381,
                      AV.int IntKind.i64 143, AV.int IntKind.i64 144, AV.int IntKind.i64 8216, AV.int IntKind.i64 8217,
                      AV.int IntKind.i64 8220, AV.int IntKind.i64 8221, AV.int IntKind.i64 8226,
                      AV.int IntKind.i64 8211, AV.int IntKind.i64 8212, AV.int IntKind.i64 732, AV.int IntKind.i64 8482,
                      AV.int IntKind.i64 353, AV.int IntKind.i64 8250, AV.int IntKind.i64 339, AV.int IntKind.i64 157,
                      AV.int IntKind.i64 382, AV.int IntKind.i64 376]]),
            some
              (Row.lst 63 32
                [AV.agg
                    [AV.int IntKind.i64 8364, AV.int IntKind.i64 129, AV.int IntKind.i64 8218, AV.int IntKind.i64 402,
                      AV.int IntKind.i64 8222, AV.int IntKind.i64 8230, AV.int IntKind.i64 8224,
                      AV.int IntKind.i64 8225, AV.int IntKind.i64 710, AV.int IntKind.i64 8240, AV.int IntKind.i64 352,
                      AV.int IntKind.i64 8249, AV.int IntKind.i64 338, AV.int IntKind.i64 141, AV.int IntKind.i64 381,
                      AV.int IntKind.i64 143, AV.int IntKind.i64 144, AV.int IntKind.i64 8216, AV.int IntKind.i64 8217,
                      AV.int IntKind.i64 8220, AV.int IntKind.i64 8221, AV.int IntKind.i64 8226,
                      AV.int IntKind.i64 8211, AV.int IntKind.i64 8212, AV.int IntKind.i64 732, AV.int IntKind.i64 8482,
                      AV.int IntKind.i64 353, AV.int IntKind.i64 8250, AV.int IntKind.i64 339, AV.int IntKind.i64 157,
                      AV.int IntKind.i64 382, AV.int IntKind.i64 376]]),
            some (Row.byt 5 s),
            some
              (Row.gen 38 2 i fun i =>
                AV.agg [AV.int IntKind.i64 (winI (byteI s i)), AV.int IntKind.i64 (a + (↑i : Int))])] }) := by kernel_rfl
end Go.Dc.Ka
