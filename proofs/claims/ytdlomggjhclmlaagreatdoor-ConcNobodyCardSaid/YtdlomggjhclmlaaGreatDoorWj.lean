/- Wj: two more blocks. No condition. -/
import Derived.Test.YtdlomggjhclmlaaGreatDoorW0
namespace Go.Proofs.YtdlomggjhclmlaaGreatDoor
set_option linter.unusedSimpArgs false
set_option linter.unusedVariables false
open Go.RowKit
set_option maxRecDepth 100000
noncomputable section
def shK8 : List AV := [w32 [2896751881, 2204687693, 2965266935, 924431850, 4041008993, 594331399, 2013239285, 3067125608], w8 [2, 0, 0, 0, 0, 1, 0, 0, 0, 0, 0, 0, 0, 0, 0, 0, 128, 0, 0, 0, 0, 0, 0, 0, 0, 0, 0, 0, 0, 0, 0, 0, 0, 0, 0, 0, 0, 0, 0, 0, 0, 0, 0, 0, 0, 0, 0, 0, 0, 0, 0, 0, 0, 0, 0, 0, 0, 0, 0, 0, 0, 0, 2, 128]]
def shR8 : AV := .agg [.sc true (.int .u32 4077965735), .sc true (.int .u32 2966380271), .sc true (.int .u32 1810374460), .sc true (.int .u32 1094998518), .sc true (.int .u32 2100171786), .sc true (.int .u32 2257181585), .sc true (.int .u32 35512650), .sc true (.int .u32 2865418170)]
def shK9 : List AV := [w32 [2130283542, 1889506538, 1634557580, 4016216450, 341203214, 1879619631, 3067020439, 1131316914], w8 [243, 16, 209, 167, 176, 207, 94, 239, 107, 232, 31, 60, 65, 68, 89, 246, 125, 46, 20, 10, 134, 137, 219, 145, 2, 29, 225, 74, 170, 202, 207, 186, 128, 0, 0, 0, 0, 0, 0, 0, 0, 0, 0, 0, 0, 0, 0, 0, 0, 0, 0, 0, 0, 0, 0, 0, 0, 0, 0, 0, 0, 0, 3, 0]]
def shR9 : AV := .agg [.sc true (.int .u32 3003777206), .sc true (.int .u32 2467570375), .sc true (.int .u32 3893596659), .sc true (.int .u32 413422011), .sc true (.int .u32 166485787), .sc true (.int .u32 2385821337), .sc true (.int .u32 1583343352), .sc true (.int .u32 3570129763)]
end
end Go.Proofs.YtdlomggjhclmlaaGreatDoor
