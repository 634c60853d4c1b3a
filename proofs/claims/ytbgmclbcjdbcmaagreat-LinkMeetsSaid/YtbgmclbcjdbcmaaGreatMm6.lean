/- Mm, 6: texts of this claim, one behind the other: Kt4 Kv4 Kv5. No condition. -/
import Derived.Test.YtbgmclbcjdbcmaaGreatMm3
import Derived.Test.YtbgmclbcjdbcmaaGreatMm5
namespace Go.Proofs.YtbgmclbcjdbcmaaGreat
set_option linter.unusedSimpArgs false
set_option linter.unusedVariables false
open Go.RowKit
set_option maxRecDepth 100000
noncomputable section
def FGd9:List AV→RT AV
  | [.agg [.sc false (.int .i64 a),.sc false (.int .i64 b),.sc false (.int .i64 c),.sc false (.int .i64 e),.sc false (.int .i64 f),.sc false (.int .i64 g),.sc false (.int .i64 h),.sc false (.int .i64 i)]]=>.ok (lcfA (gd 128 1365 a) (gd 1 5 b) (gd 1 4 c) (gd0 5 e) (gd 1 5 f) (gd0 9 g) (gd 1 4 h) (gd 1 4294967294 i))
  | _=>.bad 360
def FRejK:List AV→RT AV
  | [.agg [.sc false (.int .i64 c),.sc false (.int .i64 _),.sl false [.int .u8] d none]]=>need false (c != 8&&rngB d) 363 (.ok (.tup [.sc true (.int .i64 0),.sc true (.bool false)]))
  | _=>.bad 363
def lm9G (P:Program):List (FuncId×Spec):=[(7,pureS P 7 FGd9),(46,pureS P 46 FNw),(55,pureS P 55 FDl),(70,pureS P 70 FPl),(19,pureS P 19 FLkC),(10,pureS P 10 FLea9),(73,pureS P 73 FIpk),(121,pureS P 121 FEncK),(35,pureS P 35 FEncK),(69,pureS P 69 FDecK),(34,pureS P 34 FDecK),(28,pureS P 28 FJoinK),(36,pureS P 36 FEncT),(67,vecS P 67 5 byS FPutV),(71,pureS P 71 FRejK),(38,pureS P 38 FSameL),(135,pureS P 135 FSameO),(9,pureS P 9 (Fone uAwkK uAwkR))]
theorem gd9_tree (a b c e f g h i:Int):treeF (evF Tryz.prog (gam ([])) (lam ([])) 100 7) [lcfA a b c e f g h i] =
RT.br true (RT.br true (RT.br true (RT.br true (RT.br true (RT.br true (RT.br true (RT.br true (RT.ok (AV.agg [zi (IntKind.wrap IntKind.i64 (128+IntKind.wrap IntKind.i64 (Int.tmod (IntKind.wrap IntKind.u64 a) 1365))),zi (IntKind.wrap IntKind.i64 (1+IntKind.wrap IntKind.i64 (Int.tmod (IntKind.wrap IntKind.u64 b) 5))),zi (IntKind.wrap IntKind.i64 (1+IntKind.wrap IntKind.i64 (Int.tmod (IntKind.wrap IntKind.u64 c) 4))),zi (IntKind.wrap IntKind.i64 (Int.tmod (IntKind.wrap IntKind.u64 e) 5)),zi (IntKind.wrap IntKind.i64 (1+IntKind.wrap IntKind.i64 (Int.tmod (IntKind.wrap IntKind.u64 f) 5))),zi (IntKind.wrap IntKind.i64 (Int.tmod (IntKind.wrap IntKind.u64 g) 9)),zi (IntKind.wrap IntKind.i64 (1+IntKind.wrap IntKind.i64 (Int.tmod (IntKind.wrap IntKind.u64 h) 4))),zi (IntKind.wrap IntKind.i64 (1+IntKind.wrap IntKind.i64 (Int.tmod (IntKind.wrap IntKind.u64 i) 4294967294)))])) (RT.bad 21)) (RT.bad 21)) (RT.bad 21)) (RT.bad 21)) (RT.bad 21)) (RT.bad 21)) (RT.bad 21)) (RT.bad 21):=by rw [← fvF_eq Tryz.prog (gam ([])) (lam ([])) false 100 7]; kernel_rfl
theorem rejK_tree (c i:Int) (d:D):treeF (pureS Tryz.prog 71 FRej) [ctlA c i d] =
RT.br (rngB d) (RT.ok (AV.tup [zi (rejN c d),zb (rejB c d)])) (RT.bad 221):=by kernel_rfl
def lm9_treeT (a b c e f g h i m n:Int):RT AV :=
RT.br true (RT.br true (RT.br (newB (gd 128 1365 a) (gd 1 5 b) (gd 1 4 c) (gd0 5 e) (gd 1 5 f) (gd0 9 g) (gd 1 4 h) (IntKind.wrap IntKind.i64 (1+Int.tmod (IntKind.wrap IntKind.i64 m) 1000))) (RT.br (newB (gd 128 1365 a) (gd 1 5 b) (gd 1 4 c) (gd0 5 e) (gd 1 5 f) (gd0 9 g) (gd 1 4 h) 1) (RT.br (decide (1≤gd 1 4294967294 i)) (RT.br (!decide (gd 1 4294967294 i≤4294967294)) (RT.br (lkB (gd 128 1365 a) (gd 1 5 b) (gd 1 4 c) (gd0 5 e) (gd 1 5 f) (gd0 9 g) (gd 1 4 h) (gd 1 4294967294 i) 0 0 0 0 (D.l []) 0 0 0 0 0 0 0 0 0 0 0 (D.l []) 0 0 0 0 0 0) (RT.ok (AV.sc true (Value.bool false))) (RT.bad 356)) (RT.br (lkB (gd 128 1365 a) (gd 1 5 b) (gd 1 4 c) (gd0 5 e) (gd 1 5 f) (gd0 9 g) (gd 1 4 h) (gd 1 4294967294 i) 1 0 0 0 (asksD (gd 128 1365 a) (IntKind.wrap IntKind.i64 (1+Int.tmod (IntKind.wrap IntKind.i64 m) 1000))) 0 0 0 (IntKind.wrap IntKind.i64 (1+Int.tmod (IntKind.wrap IntKind.i64 m) 1000)) 0 1492 0 0 0 0 0 (D.l []) 0 0 0 0 0 0) (RT.br (onB (WkV.mk (gd 128 1365 a) (gd 1 5 b) (gd 1 4 c) (gd0 5 e) (gd 1 5 f) (gd0 9 g) (gd 1 4 h) 0 0 0 (asksD (gd 128 1365 a) (IntKind.wrap IntKind.i64 (1+Int.tmod (IntKind.wrap IntKind.i64 m) 1000))) 0 0 0 (IntKind.wrap IntKind.i64 (1+Int.tmod (IntKind.wrap IntKind.i64 m) 1000)) 0 1492 0 0 0 (D.l []) (D.l []))&&optsB (asksD (gd 128 1365 a) (IntKind.wrap IntKind.i64 (1+Int.tmod (IntKind.wrap IntKind.i64 m) 1000)))) (RT.br (onB (WkV.mk (gd 128 1365 a) (gd 1 5 b) (gd 1 4 c) (gd0 5 e) (gd 1 5 f) (gd0 9 g) (gd 1 4 h) 2 0 0 (asksD (gd 128 1365 a) (IntKind.wrap IntKind.i64 (1+Int.tmod (IntKind.wrap IntKind.i64 m) 1000))) 0 0 0 (mgV (asksD (gd 128 1365 a) (IntKind.wrap IntKind.i64 (1+Int.tmod (IntKind.wrap IntKind.i64 m) 1000))) (IntKind.wrap IntKind.i64 (1+Int.tmod (IntKind.wrap IntKind.i64 m) 1000))) 0 1492 0 0 0 (D.l []) (D.l []))&&optsB (asksD (gd 128 1365 a) (IntKind.wrap IntKind.i64 (1+Int.tmod (IntKind.wrap IntKind.i64 m) 1000)))) (RT.br true (RT.br (bytesB (D.kl [D.t [D.i 1],D.t [D.i 1],D.i 0,D.i 14,D.t [D.i 1],D.t [D.i 4],D.i (byI (IntKind.wrap IntKind.u64 (gd 128 1365 a)) 2 0),D.i (byI (IntKind.wrap IntKind.u64 (gd 128 1365 a)) 2 1),D.t [D.i 5],D.t [D.i 6],D.i (byI (IntKind.wrap IntKind.u64 (IntKind.wrap IntKind.i64 (1+Int.tmod (IntKind.wrap IntKind.i64 m) 1000))) 4 0),D.i (byI (IntKind.wrap IntKind.u64 (IntKind.wrap IntKind.i64 (1+Int.tmod (IntKind.wrap IntKind.i64 m) 1000))) 4 1),D.i (byI (IntKind.wrap IntKind.u64 (IntKind.wrap IntKind.i64 (1+Int.tmod (IntKind.wrap IntKind.i64 m) 1000))) 4 2),D.i (byI (IntKind.wrap IntKind.u64 (IntKind.wrap IntKind.i64 (1+Int.tmod (IntKind.wrap IntKind.i64 m) 1000))) 4 3)])&&true) (RT.br true (RT.br true (RT.br (lkB (gd 128 1365 a) (gd 1 5 b) (gd 1 4 c) (gd0 5 e) (gd 1 5 f) (gd0 9 g) (gd 1 4 h) (gd 1 4294967294 i) 1 6 1 1 (asksD (gd 128 1365 a) (IntKind.wrap IntKind.i64 (1+Int.tmod (IntKind.wrap IntKind.i64 m) 1000))) (cntN (gd 1 5 b)) (IntKind.wrap IntKind.i64 (0+gd 1 5 f)) 0 (mgV (asksD (gd 128 1365 a) (IntKind.wrap IntKind.i64 (1+Int.tmod (IntKind.wrap IntKind.i64 m) 1000))) (mgV (asksD (gd 128 1365 a) (IntKind.wrap IntKind.i64 (1+Int.tmod (IntKind.wrap IntKind.i64 m) 1000))) (IntKind.wrap IntKind.i64 (1+Int.tmod (IntKind.wrap IntKind.i64 m) 1000)))) 0 1492 0 0 0 0 0 (D.l []) 0 0 0 0 0 0) (RT.br (bytesB (D.l [D.t [D.i 2],D.t [D.i 1],D.i 0,D.i 14,D.t [D.i 1],D.t [D.i 4],D.i (byI (IntKind.wrap IntKind.u64 (gd 128 1365 a)) 2 0),D.i (byI (IntKind.wrap IntKind.u64 (gd 128 1365 a)) 2 1),D.t [D.i 5],D.t [D.i 6],D.i (byI (IntKind.wrap IntKind.u64 (IntKind.wrap IntKind.i64 (1+Int.tmod (IntKind.wrap IntKind.i64 m) 1000))) 4 0),D.i (byI (IntKind.wrap IntKind.u64 (IntKind.wrap IntKind.i64 (1+Int.tmod (IntKind.wrap IntKind.i64 m) 1000))) 4 1),D.i (byI (IntKind.wrap IntKind.u64 (IntKind.wrap IntKind.i64 (1+Int.tmod (IntKind.wrap IntKind.i64 m) 1000))) 4 2),D.i (byI (IntKind.wrap IntKind.u64 (IntKind.wrap IntKind.i64 (1+Int.tmod (IntKind.wrap IntKind.i64 m) 1000))) 4 3)])&&true) (RT.br (onB (WkV.mk (gd 128 1365 a) (gd 1 5 b) (gd 1 4 c) (gd0 5 e) (gd 1 5 f) (gd0 9 g) (gd 1 4 h) 6 1 1 (asksD (gd 128 1365 a) (IntKind.wrap IntKind.i64 (1+Int.tmod (IntKind.wrap IntKind.i64 m) 1000))) (cntN (gd 1 5 b)) (IntKind.wrap IntKind.i64 (0+gd 1 5 f)) 0 (mgV (asksD (gd 128 1365 a) (IntKind.wrap IntKind.i64 (1+Int.tmod (IntKind.wrap IntKind.i64 m) 1000))) (mgV (asksD (gd 128 1365 a) (IntKind.wrap IntKind.i64 (1+Int.tmod (IntKind.wrap IntKind.i64 m) 1000))) (IntKind.wrap IntKind.i64 (1+Int.tmod (IntKind.wrap IntKind.i64 m) 1000)))) 0 1492 0 0 0 (D.l []) (D.l []))&&(bytesB (D.l [D.t [D.i 1],D.t [D.i 4],D.i (byI (IntKind.wrap IntKind.u64 (gd 128 1365 a)) 2 0),D.i (byI (IntKind.wrap IntKind.u64 (gd 128 1365 a)) 2 1),D.t [D.i 5],D.t [D.i 6],D.i (byI (IntKind.wrap IntKind.u64 (IntKind.wrap IntKind.i64 (1+Int.tmod (IntKind.wrap IntKind.i64 m) 1000))) 4 0),D.i (byI (IntKind.wrap IntKind.u64 (IntKind.wrap IntKind.i64 (1+Int.tmod (IntKind.wrap IntKind.i64 m) 1000))) 4 1),D.i (byI (IntKind.wrap IntKind.u64 (IntKind.wrap IntKind.i64 (1+Int.tmod (IntKind.wrap IntKind.i64 m) 1000))) 4 2),D.i (byI (IntKind.wrap IntKind.u64 (IntKind.wrap IntKind.i64 (1+Int.tmod (IntKind.wrap IntKind.i64 m) 1000))) 4 3)])&&optsB (asksD (gd 128 1365 a) (IntKind.wrap IntKind.i64 (1+Int.tmod (IntKind.wrap IntKind.i64 m) 1000))))) (RT.br (c82 1 1 (asksD (gd 128 1365 a) (IntKind.wrap IntKind.i64 (1+Int.tmod (IntKind.wrap IntKind.i64 m) 1000))) (D.l [D.t [D.i 1],D.t [D.i 4],D.i (byI (IntKind.wrap IntKind.u64 (gd 128 1365 a)) 2 0),D.i (byI (IntKind.wrap IntKind.u64 (gd 128 1365 a)) 2 1),D.t [D.i 5],D.t [D.i 6],D.i (byI (IntKind.wrap IntKind.u64 (IntKind.wrap IntKind.i64 (1+Int.tmod (IntKind.wrap IntKind.i64 m) 1000))) 4 0),D.i (byI (IntKind.wrap IntKind.u64 (IntKind.wrap IntKind.i64 (1+Int.tmod (IntKind.wrap IntKind.i64 m) 1000))) 4 1),D.i (byI (IntKind.wrap IntKind.u64 (IntKind.wrap IntKind.i64 (1+Int.tmod (IntKind.wrap IntKind.i64 m) 1000))) 4 2),D.i (byI (IntKind.wrap IntKind.u64 (IntKind.wrap IntKind.i64 (1+Int.tmod (IntKind.wrap IntKind.i64 m) 1000))) 4 3)])) (RT.br true (RT.br true (RT.br true (RT.br true (RT.br (lkB (gd 128 1365 a) (gd 1 5 b) (gd 1 4 c) (gd0 5 e) (gd 1 5 f) (gd0 9 g) (gd 1 4 h) (gd 1 4294967294 i) 1 7 1 1 (asksD (gd 128 1365 a) (IntKind.wrap IntKind.i64 (1+Int.tmod (IntKind.wrap IntKind.i64 m) 1000))) (gd 1 5 b) (IntKind.wrap IntKind.i64 (0+gd 1 5 f)) 0 (mgV (asksD (gd 128 1365 a) (IntKind.wrap IntKind.i64 (1+Int.tmod (IntKind.wrap IntKind.i64 m) 1000))) (mgV (asksD (gd 128 1365 a) (IntKind.wrap IntKind.i64 (1+Int.tmod (IntKind.wrap IntKind.i64 m) 1000))) (mgV (asksD (gd 128 1365 a) (IntKind.wrap IntKind.i64 (1+Int.tmod (IntKind.wrap IntKind.i64 m) 1000))) (IntKind.wrap IntKind.i64 (1+Int.tmod (IntKind.wrap IntKind.i64 m) 1000))))) 0 1492 0 0 0 0 0 (D.l []) 0 0 0 0 0 0) (RT.br true (RT.br (onB (WkV.mk (gd 128 1365 a) (gd 1 5 b) (gd 1 4 c) (gd0 5 e) (gd 1 5 f) (gd0 9 g) (gd 1 4 h) 7 1 1 (asksD (gd 128 1365 a) (IntKind.wrap IntKind.i64 (1+Int.tmod (IntKind.wrap IntKind.i64 m) 1000))) (gd 1 5 b) (IntKind.wrap IntKind.i64 (0+gd 1 5 f)) 0 (mgV (asksD (gd 128 1365 a) (IntKind.wrap IntKind.i64 (1+Int.tmod (IntKind.wrap IntKind.i64 m) 1000))) (mgV (asksD (gd 128 1365 a) (IntKind.wrap IntKind.i64 (1+Int.tmod (IntKind.wrap IntKind.i64 m) 1000))) (mgV (asksD (gd 128 1365 a) (IntKind.wrap IntKind.i64 (1+Int.tmod (IntKind.wrap IntKind.i64 m) 1000))) (IntKind.wrap IntKind.i64 (1+Int.tmod (IntKind.wrap IntKind.i64 m) 1000))))) 0 1492 0 0 0 (D.l []) (D.l []))&&(true&&optsB (asksD (gd 128 1365 a) (IntKind.wrap IntKind.i64 (1+Int.tmod (IntKind.wrap IntKind.i64 m) 1000))))) (RT.br (c61 (mgV (asksD (gd 128 1365 a) (IntKind.wrap IntKind.i64 (1+Int.tmod (IntKind.wrap IntKind.i64 m) 1000))) (mgV (asksD (gd 128 1365 a) (IntKind.wrap IntKind.i64 (1+Int.tmod (IntKind.wrap IntKind.i64 m) 1000))) (mgV (asksD (gd 128 1365 a) (IntKind.wrap IntKind.i64 (1+Int.tmod (IntKind.wrap IntKind.i64 m) 1000))) (IntKind.wrap IntKind.i64 (1+Int.tmod (IntKind.wrap IntKind.i64 m) 1000))))) 0 (gd0 5 e) 1 (knowD (D.l []))) (RT.br true (RT.br true (RT.br (lkB (gd 128 1365 a) (gd 1 5 b) (gd 1 4 c) (gd0 5 e) (gd 1 5 f) (gd0 9 g) (gd 1 4 h) (gd 1 4294967294 i) 2 9 1 1 (asksD (gd 128 1365 a) (IntKind.wrap IntKind.i64 (1+Int.tmod (IntKind.wrap IntKind.i64 m) 1000))) (gd 1 5 b) 0 0 (mgV (asksD (gd 128 1365 a) (IntKind.wrap IntKind.i64 (1+Int.tmod (IntKind.wrap IntKind.i64 m) 1000))) (mgV (asksD (gd 128 1365 a) (IntKind.wrap IntKind.i64 (1+Int.tmod (IntKind.wrap IntKind.i64 m) 1000))) (mgV (asksD (gd 128 1365 a) (IntKind.wrap IntKind.i64 (1+Int.tmod (IntKind.wrap IntKind.i64 m) 1000))) (mgV (asksD (gd 128 1365 a) (IntKind.wrap IntKind.i64 (1+Int.tmod (IntKind.wrap IntKind.i64 m) 1000))) (IntKind.wrap IntKind.i64 (1+Int.tmod (IntKind.wrap IntKind.i64 m) 1000)))))) 0 1492 0 (bif decide (0<gd0 9 g) then IntKind.wrap IntKind.i64 (0+gd0 9 g) else 0) 0 0 0 (D.l []) 0 0 0 0 0 0&&(true&&(decide (1≤IntKind.wrap IntKind.i64 (1+Int.tmod (IntKind.wrap IntKind.i64 n) 4294967293)∧IntKind.wrap IntKind.i64 (1+Int.tmod (IntKind.wrap IntKind.i64 n) 4294967293)≤4294967294)&&true))) (RT.br (bytesB (D.kl [D.t [D.i 1],D.t [D.i 1],D.i 0,D.i 10,D.t [D.i 3],D.t [D.i 6],D.i (byI (IntKind.wrap IntKind.u64 (gd 1 4294967294 i)) 4 0),D.i (byI (IntKind.wrap IntKind.u64 (gd 1 4294967294 i)) 4 1),D.i (byI (IntKind.wrap IntKind.u64 (gd 1 4294967294 i)) 4 2),D.i (byI (IntKind.wrap IntKind.u64 (gd 1 4294967294 i)) 4 3)])&&true) (RT.br true (RT.br true (RT.br (lkB (gd 128 1365 a) (gd 1 5 b) (gd 1 4 c) (gd0 5 e) (gd 1 5 f) (gd0 9 g) (gd 1 4 h) (gd 1 4294967294 i) 3 9 1 1 (asksD (gd 128 1365 a) (IntKind.wrap IntKind.i64 (1+Int.tmod (IntKind.wrap IntKind.i64 m) 1000))) (gd 1 5 b) 0 0 (mgV (asksD (gd 128 1365 a) (IntKind.wrap IntKind.i64 (1+Int.tmod (IntKind.wrap IntKind.i64 m) 1000))) (mgV (asksD (gd 128 1365 a) (IntKind.wrap IntKind.i64 (1+Int.tmod (IntKind.wrap IntKind.i64 m) 1000))) (mgV (asksD (gd 128 1365 a) (IntKind.wrap IntKind.i64 (1+Int.tmod (IntKind.wrap IntKind.i64 m) 1000))) (mgV (asksD (gd 128 1365 a) (IntKind.wrap IntKind.i64 (1+Int.tmod (IntKind.wrap IntKind.i64 m) 1000))) (IntKind.wrap IntKind.i64 (1+Int.tmod (IntKind.wrap IntKind.i64 m) 1000)))))) 0 1492 0 (bif decide (0<gd0 9 g) then IntKind.wrap IntKind.i64 (0+gd0 9 g) else 0) 6 1 1 (D.l [D.t [D.i 3,D.l [D.i (byI (IntKind.wrap IntKind.u64 (gd 1 4294967294 i)) 4 0),D.i (byI (IntKind.wrap IntKind.u64 (gd 1 4294967294 i)) 4 1),D.i (byI (IntKind.wrap IntKind.u64 (gd 1 4294967294 i)) 4 2),D.i (byI (IntKind.wrap IntKind.u64 (gd 1 4294967294 i)) 4 3)]]]) (cntN (gd 1 5 b)) (IntKind.wrap IntKind.i64 (1+gd 1 5 f)) 0 (gd 1 4294967294 i) (IntKind.wrap IntKind.i64 (1+Int.tmod (IntKind.wrap IntKind.i64 n) 4294967293)) (IntKind.wrap IntKind.i64 (1+Int.tmod (IntKind.wrap IntKind.i64 n) 4294967293))) (RT.br (bytesB (D.l [D.t [D.i 2],D.t [D.i 1],D.i 0,D.i 10,D.t [D.i 3],D.t [D.i 6],D.i (byI (IntKind.wrap IntKind.u64 (gd 1 4294967294 i)) 4 0),D.i (byI (IntKind.wrap IntKind.u64 (gd 1 4294967294 i)) 4 1),D.i (byI (IntKind.wrap IntKind.u64 (gd 1 4294967294 i)) 4 2),D.i (byI (IntKind.wrap IntKind.u64 (gd 1 4294967294 i)) 4 3)])&&true) (RT.br (ichB (gd 1 5 b) (gd 1 4 c) (gd0 5 e) (gd 1 5 f) 6 1 1 (D.l [D.t [D.i 3,D.l [D.i (byI (IntKind.wrap IntKind.u64 (gd 1 4294967294 i)) 4 0),D.i (byI (IntKind.wrap IntKind.u64 (gd 1 4294967294 i)) 4 1),D.i (byI (IntKind.wrap IntKind.u64 (gd 1 4294967294 i)) 4 2),D.i (byI (IntKind.wrap IntKind.u64 (gd 1 4294967294 i)) 4 3)]]]) (cntN (gd 1 5 b)) (IntKind.wrap IntKind.i64 (1+gd 1 5 f)) 0 (gd 1 4294967294 i) (IntKind.wrap IntKind.i64 (1+Int.tmod (IntKind.wrap IntKind.i64 n) 4294967293))&&(true&&(true&&(mayA (D.l [D.t [D.ki 3,D.ki 4,D.ki 3,D.ki 0,D.ki 0,D.i (IntKind.wrap IntKind.i64 (1+Int.tmod (IntKind.wrap IntKind.i64 n) 4294967293)),D.kb true]]) (gd 1 5 b) (gd 1 4 c) (gd0 5 e) (gd 1 5 f) (AuV.mk 6 1 1 (D.l [D.t [D.i 3,D.l [D.i (byI (IntKind.wrap IntKind.u64 (gd 1 4294967294 i)) 4 0),D.i (byI (IntKind.wrap IntKind.u64 (gd 1 4294967294 i)) 4 1),D.i (byI (IntKind.wrap IntKind.u64 (gd 1 4294967294 i)) 4 2),D.i (byI (IntKind.wrap IntKind.u64 (gd 1 4294967294 i)) 4 3)]]]) (cntN (gd 1 5 b)) (IntKind.wrap IntKind.i64 (1+gd 1 5 f)) 0) 1&&(bytesB (D.l [D.t [D.i 3],D.t [D.i 6],D.i (byI (IntKind.wrap IntKind.u64 (gd 1 4294967294 i)) 4 0),D.i (byI (IntKind.wrap IntKind.u64 (gd 1 4294967294 i)) 4 1),D.i (byI (IntKind.wrap IntKind.u64 (gd 1 4294967294 i)) 4 2),D.i (byI (IntKind.wrap IntKind.u64 (gd 1 4294967294 i)) 4 3)])&&optsB (D.l [D.t [D.i 3,D.l [D.i (byI (IntKind.wrap IntKind.u64 (gd 1 4294967294 i)) 4 0),D.i (byI (IntKind.wrap IntKind.u64 (gd 1 4294967294 i)) 4 1),D.i (byI (IntKind.wrap IntKind.u64 (gd 1 4294967294 i)) 4 2),D.i (byI (IntKind.wrap IntKind.u64 (gd 1 4294967294 i)) 4 3)]]])))))) (RT.br (c82 1 1 (D.l [D.t [D.i 3,D.l [D.i (byI (IntKind.wrap IntKind.u64 (gd 1 4294967294 i)) 4 0),D.i (byI (IntKind.wrap IntKind.u64 (gd 1 4294967294 i)) 4 1),D.i (byI (IntKind.wrap IntKind.u64 (gd 1 4294967294 i)) 4 2),D.i (byI (IntKind.wrap IntKind.u64 (gd 1 4294967294 i)) 4 3)]]]) (D.l [D.t [D.i 3],D.t [D.i 6],D.i (byI (IntKind.wrap IntKind.u64 (gd 1 4294967294 i)) 4 0),D.i (byI (IntKind.wrap IntKind.u64 (gd 1 4294967294 i)) 4 1),D.i (byI (IntKind.wrap IntKind.u64 (gd 1 4294967294 i)) 4 2),D.i (byI (IntKind.wrap IntKind.u64 (gd 1 4294967294 i)) 4 3)])) (RT.br true (RT.br true (RT.br true (RT.br true (RT.br true (RT.br true (RT.br (lkB (gd 128 1365 a) (gd 1 5 b) (gd 1 4 c) (gd0 5 e) (gd 1 5 f) (gd0 9 g) (gd 1 4 h) (gd 1 4294967294 i) 3 9 1 1 (asksD (gd 128 1365 a) (IntKind.wrap IntKind.i64 (1+Int.tmod (IntKind.wrap IntKind.i64 m) 1000))) (gd 1 5 b) 0 0 (mgV (asksD (gd 128 1365 a) (IntKind.wrap IntKind.i64 (1+Int.tmod (IntKind.wrap IntKind.i64 m) 1000))) (mgV (asksD (gd 128 1365 a) (IntKind.wrap IntKind.i64 (1+Int.tmod (IntKind.wrap IntKind.i64 m) 1000))) (mgV (asksD (gd 128 1365 a) (IntKind.wrap IntKind.i64 (1+Int.tmod (IntKind.wrap IntKind.i64 m) 1000))) (mgV (asksD (gd 128 1365 a) (IntKind.wrap IntKind.i64 (1+Int.tmod (IntKind.wrap IntKind.i64 m) 1000))) (IntKind.wrap IntKind.i64 (1+Int.tmod (IntKind.wrap IntKind.i64 m) 1000)))))) 0 1492 0 (bif decide (0<gd0 9 g) then IntKind.wrap IntKind.i64 (0+gd0 9 g) else 0) 7 1 1 (D.l [D.t [D.i 3,D.l [D.i (byI (IntKind.wrap IntKind.u64 (gd 1 4294967294 i)) 4 0),D.i (byI (IntKind.wrap IntKind.u64 (gd 1 4294967294 i)) 4 1),D.i (byI (IntKind.wrap IntKind.u64 (gd 1 4294967294 i)) 4 2),D.i (byI (IntKind.wrap IntKind.u64 (gd 1 4294967294 i)) 4 3)]]]) (gd 1 5 b) (IntKind.wrap IntKind.i64 (1+gd 1 5 f)) 0 (gd 1 4294967294 i) (IntKind.wrap IntKind.i64 (1+Int.tmod (IntKind.wrap IntKind.i64 n) 4294967293)) (IntKind.wrap IntKind.i64 (1+Int.tmod (IntKind.wrap IntKind.i64 n) 4294967293))) (RT.br (bytesB (D.l [D.t [D.i 1],D.t [D.i 5],D.i 0,D.i 10,D.t [D.i 3],D.t [D.i 6],D.t [D.i (IntKind.wrap IntKind.u8 (Int.fdiv (IntKind.wrap IntKind.i64 (1+Int.tmod (IntKind.wrap IntKind.i64 n) 4294967293)) 16777216))],D.t [D.i (IntKind.wrap IntKind.u8 (Int.fdiv (IntKind.wrap IntKind.i64 (1+Int.tmod (IntKind.wrap IntKind.i64 n) 4294967293)) 65536))],D.t [D.i (IntKind.wrap IntKind.u8 (Int.fdiv (IntKind.wrap IntKind.i64 (1+Int.tmod (IntKind.wrap IntKind.i64 n) 4294967293)) 256))],D.t [D.i (IntKind.wrap IntKind.u8 (IntKind.wrap IntKind.i64 (1+Int.tmod (IntKind.wrap IntKind.i64 n) 4294967293)))]])&&true) (RT.br (ichB (gd 1 5 b) (gd 1 4 c) (gd0 5 e) (gd 1 5 f) 7 1 1 (D.l [D.t [D.i 3,D.l [D.i (byI (IntKind.wrap IntKind.u64 (gd 1 4294967294 i)) 4 0),D.i (byI (IntKind.wrap IntKind.u64 (gd 1 4294967294 i)) 4 1),D.i (byI (IntKind.wrap IntKind.u64 (gd 1 4294967294 i)) 4 2),D.i (byI (IntKind.wrap IntKind.u64 (gd 1 4294967294 i)) 4 3)]]]) (gd 1 5 b) (IntKind.wrap IntKind.i64 (1+gd 1 5 f)) 0 (gd 1 4294967294 i) (IntKind.wrap IntKind.i64 (1+Int.tmod (IntKind.wrap IntKind.i64 n) 4294967293))&&(true&&(true&&(mayA (D.l [D.t [D.ki 3,D.ki 4,D.ki 3,D.ki 0,D.ki 0,D.i (IntKind.wrap IntKind.i64 (1+Int.tmod (IntKind.wrap IntKind.i64 n) 4294967293)),D.kb true]]) (gd 1 5 b) (gd 1 4 c) (gd0 5 e) (gd 1 5 f) (AuV.mk 7 1 1 (D.l [D.t [D.i 3,D.l [D.i (byI (IntKind.wrap IntKind.u64 (gd 1 4294967294 i)) 4 0),D.i (byI (IntKind.wrap IntKind.u64 (gd 1 4294967294 i)) 4 1),D.i (byI (IntKind.wrap IntKind.u64 (gd 1 4294967294 i)) 4 2),D.i (byI (IntKind.wrap IntKind.u64 (gd 1 4294967294 i)) 4 3)]]]) (gd 1 5 b) (IntKind.wrap IntKind.i64 (1+gd 1 5 f)) 0) 1&&(bytesB (D.l [D.t [D.i 3],D.t [D.i 6],D.t [D.i (IntKind.wrap IntKind.u8 (Int.fdiv (IntKind.wrap IntKind.i64 (1+Int.tmod (IntKind.wrap IntKind.i64 n) 4294967293)) 16777216))],D.t [D.i (IntKind.wrap IntKind.u8 (Int.fdiv (IntKind.wrap IntKind.i64 (1+Int.tmod (IntKind.wrap IntKind.i64 n) 4294967293)) 65536))],D.t [D.i (IntKind.wrap IntKind.u8 (Int.fdiv (IntKind.wrap IntKind.i64 (1+Int.tmod (IntKind.wrap IntKind.i64 n) 4294967293)) 256))],D.t [D.i (IntKind.wrap IntKind.u8 (IntKind.wrap IntKind.i64 (1+Int.tmod (IntKind.wrap IntKind.i64 n) 4294967293)))]])&&optsB (D.l [D.t [D.i 3,D.l [D.i (byI (IntKind.wrap IntKind.u64 (gd 1 4294967294 i)) 4 0),D.i (byI (IntKind.wrap IntKind.u64 (gd 1 4294967294 i)) 4 1),D.i (byI (IntKind.wrap IntKind.u64 (gd 1 4294967294 i)) 4 2),D.i (byI (IntKind.wrap IntKind.u64 (gd 1 4294967294 i)) 4 3)]]])))))) (RT.br (cRq (D.l [D.t [D.ki 3,D.ki 4,D.ki 3,D.ki 0,D.ki 0,D.i (IntKind.wrap IntKind.i64 (1+Int.tmod (IntKind.wrap IntKind.i64 n) 4294967293)),D.kb true]]) 0 (gd0 5 e) 5 (D.l [D.t [D.i 3],D.t [D.i 6],D.t [D.i (IntKind.wrap IntKind.u8 (Int.fdiv (IntKind.wrap IntKind.i64 (1+Int.tmod (IntKind.wrap IntKind.i64 n) 4294967293)) 16777216))],D.t [D.i (IntKind.wrap IntKind.u8 (Int.fdiv (IntKind.wrap IntKind.i64 (1+Int.tmod (IntKind.wrap IntKind.i64 n) 4294967293)) 65536))],D.t [D.i (IntKind.wrap IntKind.u8 (Int.fdiv (IntKind.wrap IntKind.i64 (1+Int.tmod (IntKind.wrap IntKind.i64 n) 4294967293)) 256))],D.t [D.i (IntKind.wrap IntKind.u8 (IntKind.wrap IntKind.i64 (1+Int.tmod (IntKind.wrap IntKind.i64 n) 4294967293)))]])) (RT.br true (RT.br false (RT.ok (AV.sc true (Value.bool false))) (RT.br true (RT.br (lkB (gd 128 1365 a) (gd 1 5 b) (gd 1 4 c) (gd0 5 e) (gd 1 5 f) (gd0 9 g) (gd 1 4 h) (gd 1 4294967294 i) 3 9 1 1 (asksD (gd 128 1365 a) (IntKind.wrap IntKind.i64 (1+Int.tmod (IntKind.wrap IntKind.i64 m) 1000))) (gd 1 5 b) 0 0 (mgV (asksD (gd 128 1365 a) (IntKind.wrap IntKind.i64 (1+Int.tmod (IntKind.wrap IntKind.i64 m) 1000))) (mgV (asksD (gd 128 1365 a) (IntKind.wrap IntKind.i64 (1+Int.tmod (IntKind.wrap IntKind.i64 m) 1000))) (mgV (asksD (gd 128 1365 a) (IntKind.wrap IntKind.i64 (1+Int.tmod (IntKind.wrap IntKind.i64 m) 1000))) (mgV (asksD (gd 128 1365 a) (IntKind.wrap IntKind.i64 (1+Int.tmod (IntKind.wrap IntKind.i64 m) 1000))) (IntKind.wrap IntKind.i64 (1+Int.tmod (IntKind.wrap IntKind.i64 m) 1000)))))) 0 1492 0 (bif decide (0<gd0 9 g) then IntKind.wrap IntKind.i64 (0+gd0 9 g) else 0) 9 1 1 (D.l [D.t [D.i 3,D.l [D.i (byI (IntKind.wrap IntKind.u64 (gd 1 4294967294 i)) 4 0),D.i (byI (IntKind.wrap IntKind.u64 (gd 1 4294967294 i)) 4 1),D.i (byI (IntKind.wrap IntKind.u64 (gd 1 4294967294 i)) 4 2),D.i (byI (IntKind.wrap IntKind.u64 (gd 1 4294967294 i)) 4 3)]]]) (gd 1 5 b) 0 0 (gd 1 4294967294 i) (IntKind.wrap IntKind.i64 (1+Int.tmod (IntKind.wrap IntKind.i64 n) 4294967293)) (IntKind.wrap IntKind.i64 (1+Int.tmod (IntKind.wrap IntKind.i64 n) 4294967293))) (RT.br (IntKind.wrap IntKind.i64 (1+Int.tmod (IntKind.wrap IntKind.i64 n) 4294967293)==IntKind.wrap IntKind.i64 (1+Int.tmod (IntKind.wrap IntKind.i64 n) 4294967293)) (RT.br (IntKind.wrap IntKind.i64 (1+Int.tmod (IntKind.wrap IntKind.i64 n) 4294967293)==IntKind.wrap IntKind.i64 (1+Int.tmod (IntKind.wrap IntKind.i64 n) 4294967293)) (RT.br (sameL 9 1 1 (asksD (gd 128 1365 a) (IntKind.wrap IntKind.i64 (1+Int.tmod (IntKind.wrap IntKind.i64 m) 1000))) (gd 1 5 b) 0 0 (mgV (asksD (gd 128 1365 a) (IntKind.wrap IntKind.i64 (1+Int.tmod (IntKind.wrap IntKind.i64 m) 1000))) (mgV (asksD (gd 128 1365 a) (IntKind.wrap IntKind.i64 (1+Int.tmod (IntKind.wrap IntKind.i64 m) 1000))) (mgV (asksD (gd 128 1365 a) (IntKind.wrap IntKind.i64 (1+Int.tmod (IntKind.wrap IntKind.i64 m) 1000))) (mgV (asksD (gd 128 1365 a) (IntKind.wrap IntKind.i64 (1+Int.tmod (IntKind.wrap IntKind.i64 m) 1000))) (IntKind.wrap IntKind.i64 (1+Int.tmod (IntKind.wrap IntKind.i64 m) 1000)))))) 0 1492 0 (bif decide (0<gd0 9 g) then IntKind.wrap IntKind.i64 (0+gd0 9 g) else 0) 9 1 1 (asksD (gd 128 1365 a) (IntKind.wrap IntKind.i64 (1+Int.tmod (IntKind.wrap IntKind.i64 m) 1000))) (gd 1 5 b) 0 0 (mgV (asksD (gd 128 1365 a) (IntKind.wrap IntKind.i64 (1+Int.tmod (IntKind.wrap IntKind.i64 m) 1000))) (mgV (asksD (gd 128 1365 a) (IntKind.wrap IntKind.i64 (1+Int.tmod (IntKind.wrap IntKind.i64 m) 1000))) (mgV (asksD (gd 128 1365 a) (IntKind.wrap IntKind.i64 (1+Int.tmod (IntKind.wrap IntKind.i64 m) 1000))) (mgV (asksD (gd 128 1365 a) (IntKind.wrap IntKind.i64 (1+Int.tmod (IntKind.wrap IntKind.i64 m) 1000))) (IntKind.wrap IntKind.i64 (1+Int.tmod (IntKind.wrap IntKind.i64 m) 1000)))))) 0 1492 0 (bif decide (0<gd0 9 g) then IntKind.wrap IntKind.i64 (0+gd0 9 g) else 0)) (RT.br true (RT.br true (RT.br (gd 1 5 b==gd 1 5 b) (RT.br true (RT.br true (RT.br (sameO (D.l [D.t [D.i 3,D.l [D.i (byI (IntKind.wrap IntKind.u64 (gd 1 4294967294 i)) 4 0),D.i (byI (IntKind.wrap IntKind.u64 (gd 1 4294967294 i)) 4 1),D.i (byI (IntKind.wrap IntKind.u64 (gd 1 4294967294 i)) 4 2),D.i (byI (IntKind.wrap IntKind.u64 (gd 1 4294967294 i)) 4 3)]]]) (D.l [D.t [D.i 3,D.l [D.i (byI (IntKind.wrap IntKind.u64 (gd 1 4294967294 i)) 4 0),D.i (byI (IntKind.wrap IntKind.u64 (gd 1 4294967294 i)) 4 1),D.i (byI (IntKind.wrap IntKind.u64 (gd 1 4294967294 i)) 4 2),D.i (byI (IntKind.wrap IntKind.u64 (gd 1 4294967294 i)) 4 3)]]])) (RT.br (gd 1 4294967294 i==gd 1 4294967294 i) (RT.ok (zb (IntKind.wrap IntKind.i64 (1+Int.tmod (IntKind.wrap IntKind.i64 n) 4294967293)==IntKind.wrap IntKind.i64 (1+Int.tmod (IntKind.wrap IntKind.i64 n) 4294967293)))) (RT.ok (AV.sc true (Value.bool false)))) (RT.ok (AV.sc true (Value.bool false)))) (RT.ok (AV.sc true (Value.bool false)))) (RT.ok (AV.sc true (Value.bool false)))) (RT.ok (AV.sc true (Value.bool false)))) (RT.ok (AV.sc true (Value.bool false)))) (RT.ok (AV.sc true (Value.bool false)))) (RT.ok (AV.sc true (Value.bool false)))) (RT.ok (AV.sc true (Value.bool false)))) (RT.ok (AV.sc true (Value.bool false)))) (RT.bad 356)) (RT.bad 345))) (RT.bad 343)) (RT.bad 372)) (RT.bad 370)) (RT.bad 344)) (RT.bad 356)) (RT.bad 345)) (RT.bad 343)) (RT.bad 361)) (RT.bad 26)) (RT.bad 26)) (RT.bad 26)) (RT.bad 371)) (RT.bad 370)) (RT.bad 344)) (RT.bad 356)) (RT.bad 345)) (RT.bad 343)) (RT.bad 344)) (RT.bad 380)) (RT.bad 363)) (RT.bad 343)) (RT.bad 337)) (RT.bad 335)) (RT.bad 344)) (RT.bad 356)) (RT.bad 345)) (RT.bad 343)) (RT.bad 361)) (RT.bad 363)) (RT.bad 336)) (RT.bad 335)) (RT.bad 344)) (RT.bad 356)) (RT.bad 345)) (RT.bad 343)) (RT.bad 344)) (RT.bad 343)) (RT.bad 346)) (RT.bad 346)) (RT.bad 356))) (RT.br (lkB (gd 128 1365 a) (gd 1 5 b) (gd 1 4 c) (gd0 5 e) (gd 1 5 f) (gd0 9 g) (gd 1 4 h) (gd 1 4294967294 i) 0 0 0 0 (D.l []) 0 0 0 0 0 0 0 0 0 0 0 (D.l []) 0 0 0 0 0 0) (RT.ok (AV.sc true (Value.bool false))) (RT.bad 356))) (RT.bad 320)) (RT.bad 320)) (RT.bad 21)) (RT.bad 21)
theorem lm9_tree (a b c e f g h i m n:Int):treeF (evF Tryz.prog (gam (lm9G Tryz.prog)) (lam ([])) 100 3) [lcfA a b c e f g h i,.sc false (.int .u32 m),.sc false (.int .u32 n)]=lm9_treeT a b c e f g h i m n:=by rw [← fvF_eq Tryz.prog (gam (lm9G Tryz.prog)) (lam ([])) false 100 3]; kernel_rfl
abbrev nfX (own:Int):D:=.l [.t [.i 3],.t [.i 6],.i (byI (uns own) 4 0),.i (byI (uns own) 4 1),.i (byI (uns own) 4 2),.i (byI (uns own) 4 3)]
abbrev u8I (n:Int):Int:=IntKind.wrap .u8 n
abbrev adX (to:Int):D:=.l [.t [.i 3],.t [.i 6],.t [.i (u8I (Int.fdiv to 16777216))],.t [.i (u8I (Int.fdiv to 65536))],.t [.i (u8I (Int.fdiv to 256))],.t [.i (u8I to)]]
def okBy (x:D):Prop:=0≤(x.cell 0).toI∧(x.cell 0).toI<256
def okBL:List D→Prop
  | []=>True
  | x :: xs=>okBy x∧okBL xs
theorem okBL_get:∀ (l:List D),okBL l→∀ i (h:i<l.length),okBy l[i]
  | [],_,i,h=>absurd h (Nat.not_lt_zero i)
  | x :: xs,h,0,_=>h.1
  | x :: xs,h,i+1,hi=>okBL_get xs h.2 i (Nat.lt_of_succ_lt_succ hi)
theorem bytes_lit {d:D} (l:List D) (hd:d.raw=l) (hn:l.length≤1000) (h:okBL l):bytesB d=true:=by
  have hl:d.toL=l:=by unfold D.toL; rw [hd]; exact List.take_of_length_le (by unfold maxLen; omega)
  refine det fun i hi=>?_
  have hi:i<l.length:=by unfold D.len at hi; rw [hl] at hi; exact hi
  have e:byN d i=(l[i].cell 0).toI:=by unfold byN D.get; rw [hl,List.getD_eq_getElem?_getD,List.getElem?_eq_getElem hi]; rfl
  rw [e]
  exact okBL_get l h i hi
theorem okB_i {n s i}:okBy (.i (byI n s i)):=byI_rng n s i
theorem okB_u {n:Int}:okBy (.t [.i (u8I n)]):=by
  show 0≤u8I n∧u8I n<256
  have:u8I n=n % 256:=rfl
  omega
theorem okB_c {n:Int} (h:0≤n∧n<256:=by decide):okBy (.t [.i n]):=h
theorem okB_d {n:Int} (h:0≤n∧n<256:=by decide):okBy (.i n):=h
theorem ask_enc (a m:Int):encE (asksD a m)=0:=by kernel_rfl
theorem ask_by (a m:Int):optsB (asksD a m)=true:=by
  have hl:(asksD a m).len=2:=rfl
  have e0:optB (asksD a m) 0=byL (uns a) 2:=rfl
  have e1:optB (asksD a m) 1=byL (uns m) 4:=rfl
  refine det fun i hi j hj=>?_
  rw [hl] at hi
  match i,hi with
  | 0,_ =>
    rw [e0] at hj ⊢
    have hj:j<2:=hj
    match j,hj with
    | 0,_=>exact byI_rng (uns a) 2 0
    | 1,_=>exact byI_rng (uns a) 2 1
  | 1,_ =>
    rw [e1] at hj ⊢
    have hj:j<4:=hj
    match j,hj with
    | 0,_=>exact byI_rng (uns m) 4 0
    | 1,_=>exact byI_rng (uns m) 4 1
    | 2,_=>exact byI_rng (uns m) 4 2
    | 3,_=>exact byI_rng (uns m) 4 3
theorem nf_by (own:Int):optsB (nfO own)=true:=by
  have hl:(nfO own).len=1:=rfl
  have e0:optB (nfO own) 0=.l [.i (byI (uns own) 4 0),.i (byI (uns own) 4 1),.i (byI (uns own) 4 2),.i (byI (uns own) 4 3)]:=rfl
  refine det fun i hi j hj=>?_
  rw [hl] at hi
  match i,hi with
  | 0,_ =>
    rw [e0] at hj ⊢
    have hj:j<4:=hj
    match j,hj with
    | 0,_=>exact byI_rng (uns own) 4 0
    | 1,_=>exact byI_rng (uns own) 4 1
    | 2,_=>exact byI_rng (uns own) 4 2
    | 3,_=>exact byI_rng (uns own) 4 3
theorem nfX_by (own:Int):bytesB (nfX own)=true:=bytes_lit _ rfl (Nat.le_of_ble_eq_true rfl) ⟨okB_c,okB_c,okB_i,okB_i,okB_i,okB_i,trivial⟩
theorem adX_by (to:Int):bytesB (adX to)=true:=bytes_lit _ rfl (Nat.le_of_ble_eq_true rfl) ⟨okB_c,okB_c,okB_u,okB_u,okB_u,okB_u,trivial⟩
theorem sou_ok {st id rq ct tm nk:Int} {d:D} (he:encE d=0) (h1:0≤st∧st≤9) (h2:0≤id∧id≤255) (h3:0≤rq∧rq≤255) (h4:0≤ct∧ct≤1000) (h5:0≤nk∧nk≤1000) (h6:((4≤st∧st≤8)∧1≤tm∧tm≤1099512676352)∨(¬ (4≤st∧st≤8)∧tm=0)):soundB st id rq d ct tm nk=true:=by
  unfold soundB inB timB inB
  rw [det h1,det h2,det h3,det h4,det h5,he]
  rcases h6 with ⟨h,h'⟩ | ⟨h,h'⟩
  · rw [if_pos h,det h']; rfl
  · rw [if_neg h,h']; rfl
theorem lis_ok {a b c e f g h st id rq ct tm nk m pr mu pe ne:Int} {d:D} (hf:fitsB a b c e f g h=true) (hm:1≤m∧m≤4294967295) (hp:0≤pr∧pr≤4294967295) (hu:128≤mu∧mu≤1492) (hpe:0≤pe∧pe≤1000) (hs:soundB st id rq d ct tm nk=true) (hne:ne=0∨(st=9∧0<g∧1≤ne∧ne≤1099512676352)):lisB a b c e f g h st id rq d ct tm nk m pr mu pe ne=true :=
  (lisB_iff ..).2 ⟨hf,hm,hp,hu,hpe,hs,hne⟩
theorem lk1_ok {a b c e f g h own st id rq ct tm nk m pr mu pe ne:Int} {d:D} (hn:newB a b c e f g h 1=true) (ho:1≤own∧own≤4294967294) (hl:lisB a b c e f g h st id rq d ct tm nk m pr mu pe ne=true) (hs:st≠9):lkB a b c e f g h own 1 st id rq d ct tm nk m pr mu pe ne 0 0 0 (.l []) 0 0 0 0 0 0=true:=by
  unfold lkB inB
  have h1:(decide ((1:Int)≤own∧own≤4294967294))=true:=det ho
  have h2:(st != 9)=true:=bne_iff_ne.2 hs
  rw [hn,h1,hl]
  unfold lkP
  rw [h2]; rfl
theorem lk2_ok {a b c e f g h own id rq ct tm nk m pr mu pe ne:Int} {d:D} (hn:newB a b c e f g h 1=true) (ho:1≤own∧own≤4294967294) (hl:lisB a b c e f g h 9 id rq d ct tm nk m pr mu pe ne=true):lkB a b c e f g h own 2 9 id rq d ct tm nk m pr mu pe ne 0 0 0 (.l []) 0 0 0 0 0 0=true:=by
  unfold lkB inB
  have h1:(decide ((1:Int)≤own∧own≤4294967294))=true:=det ho
  rw [hn,h1,hl]; rfl
theorem lk3_ok {a b c e f g h own id rq ct tm nk m pr mu pe ne st' id' rq' ct' tm' nk' to:Int} {d d':D} (hn:newB a b c e f g h 1=true) (ho:1≤own∧own≤4294967294) (hl:lisB a b c e f g h 9 id rq d ct tm nk m pr mu pe ne=true) (ht:1≤to∧to≤4294967294) (hi:ichB b c e f st' id' rq' d' ct' tm' nk' own to=true):lkB a b c e f g h own 3 9 id rq d ct tm nk m pr mu pe ne st' id' rq' d' ct' tm' nk' own to to=true:=by
  unfold lkB inB
  have h1:(decide ((1:Int)≤own∧own≤4294967294))=true:=det ho
  have h2:(decide ((0:Int)≤to∧to≤4294967294))=true:=det ⟨by omega,ht.2⟩
  have h3:(to != 0)=true:=bne_iff_ne.2 (by omega)
  rw [hn,h1,hl,h2]
  unfold lkP
  rw [h3,hi,beq_self_eq_true own,beq_self_eq_true to]; rfl
theorem on9_ok {a b c e f g h st id rq ct tm nk m pr mu pe ne tk:Int} {d:D} (hl:lisB a b c e f g h st id rq d ct tm nk m pr mu pe ne=true) (ht:0≤tk∧tk≤1099511627776):onB ⟨a,b,c,e,f,g,h,st,id,rq,d,ct,tm,nk,m,pr,mu,pe,ne,tk,.l [],.l []⟩=true:=by
  unfold onB lisW
  rw [hl,det ht.1,det ht.2]; rfl
theorem and_tt {x y:Bool} (h1:x=true) (h2:y=true):(x&&y)=true:=by rw [h1,h2]; rfl
theorem enc7_lit {c ii:Int} {x:D} {n:Nat} (hl:x.len=n) (hc:(0≤c∧c≤255)∧0≤ii∧ii≤255) (hn:n≤1488):enc7E c ii x=0:=by
  unfold enc7E
  rw [if_pos hc,if_neg (by omega)]
theorem c82_nf (own:Int):c82 1 1 (nfO own) (nfX own)=true:=by
  have e:encO (nfO own)=nfX own:=by kernel_rfl
  have hl:(nfX own).len=6:=by kernel_rfl
  unfold c82
  rw [enc7_lit hl ⟨by decide,by decide⟩ (by decide),e,beq_self_eq_true,beq_self_eq_true,beq_self_eq_true]; rfl
theorem ans_nil {m mf:Int} (hm:1≤m∧m≤4294967295):ansC (rlA m) (decO (.kl [])) 0 mf=2:=by
  have hl:(decO (.kl [])).len=0:=by kernel_rfl
  have hk:okR (rlA m)=true:=(oth_may hm.1 hm.2).1
  have h1:(oddL (rlA m) (decO (.kl []))).len=0:=filD_no (D.len_le _) fun i hi=>by omega
  have h2:(filD (bdB (rlA m) (decO (.kl [])) (decO (.kl []))) (fun j=>gooE (rlA m) (rulK (rlA m) (decO (.kl [])) j)) (decO (.kl [])).len).len=0:=filD_no (D.len_le _) fun i hi=>by omega
  have h3:(nakL (rlA m) (decO (.kl []))).len=0:=by
    unfold nakL
    generalize filD (bdB (rlA m) (decO (.kl [])) (decO (.kl []))) (fun j=>gooE (rlA m) (rulK (rlA m) (decO (.kl [])) j)) (decO (.kl [])).len=z at h2
    have e:∀ f,grow z (lackB (rlA m) (decO (.kl []))) f (rlA m).len=z:=fun f=>rfl
    rw [e]; exact h2
  unfold ansC
  rw [hk,cond_true,if_neg (by omega),if_pos h3]
theorem c61_nil {m mf:Int} (hm:1≤m∧m≤4294967295):c61 m 0 mf 1 (.kl [])=true:=by
  have e1:enc7E 1 1 (.kl [])=0:=by kernel_rfl
  have e2:decE (.kl [])=0:=by kernel_rfl
  have e3:encE (decO (.kl []))=0:=by kernel_rfl
  unfold c61
  rw [e1,e2,e3,ans_nil hm]; rfl
theorem four_u8 {to:Int} (h:0≤to∧to<4294967296):256*(256*(256*u8I (Int.fdiv to 16777216)+u8I (Int.fdiv to 65536))+u8I (Int.fdiv to 256))+u8I to=to:=by
  have e:∀ x:Int,u8I x=x % 256:=fun _=>rfl
  rw [e,e,e,e,Int.fdiv_eq_ediv_of_nonneg _ (by decide),Int.fdiv_eq_ediv_of_nonneg _ (by decide),Int.fdiv_eq_ediv_of_nonneg _ (by decide)]
  omega
theorem ans_ad {to mf:Int} (h:1≤to∧to≤4294967294):ansC (ipD to) (decO (adX to)) 0 mf=2:=by
  have hl:(decO (adX to)).len=1:=by kernel_rfl
  have hk:okR (ipD to)=true:=by
    have e1:rlM (ipD to)=fkM to:=rfl
    have e2:rlG (ipD to)=to:=rfl
    unfold okR
    rw [e1,e2,rules_fk]; exact det ⟨by omega,by omega⟩
  have o0:oddB (ipD to) (decO (adX to)) (decO (adX to)) 0=false:=by kernel_rfl
  have n0:notB (ipD to) (decO (adX to)) 0=false:=by
    have e:notB (ipD to) (decO (adX to)) 0=!(256*(256*(256*u8I (Int.fdiv to 16777216)+u8I (Int.fdiv to 65536))+u8I (Int.fdiv to 256))+u8I to==to):=by kernel_rfl
    rw [e,four_u8 ⟨by omega,by omega⟩,beq_self_eq_true]; rfl
  have h1:(oddL (ipD to) (decO (adX to))).len=0:=filD_no (D.len_le _) fun i hi=>by
    rw [hl] at hi
    match i,hi with
    | 0,_=>exact o0
  have h2:(filD (bdB (ipD to) (decO (adX to)) (decO (adX to))) (fun j=>gooE (ipD to) (rulK (ipD to) (decO (adX to)) j)) (decO (adX to)).len).len=0:=filD_no (D.len_le _) fun i hi=>by
    rw [hl] at hi
    unfold bdB
    match i,hi with
    | 0,_=>rw [n0,Bool.and_false]
  have h3:(nakL (ipD to) (decO (adX to))).len=0:=by
    unfold nakL
    generalize filD (bdB (ipD to) (decO (adX to)) (decO (adX to))) (fun j=>gooE (ipD to) (rulK (ipD to) (decO (adX to)) j)) (decO (adX to)).len=z at h2
    have e:∀ f,grow z (lackB (ipD to) (decO (adX to))) f (ipD to).len=z:=fun f=>by kernel_rfl
    rw [e]; exact h2
  unfold ansC
  rw [hk,cond_true,if_neg (by omega),if_pos h3]
theorem cRq_ad {to mf:Int} (h:1≤to∧to≤4294967294):cRq (ipD to) 0 mf 5 (adX to)=true:=by
  have hl:(adX to).len=6:=by kernel_rfl
  have e2:decE (adX to)=0:=by kernel_rfl
  have e3:encE (decO (adX to))=0:=by kernel_rfl
  unfold cRq
  rw [enc7_lit hl ⟨by decide,by decide⟩ (by decide),e2,e3,ans_ad h]; rfl
theorem gd_big {x:Int}:1≤gd 1 4294967294 x∧gd 1 4294967294 x≤4294967294:=by
  have hw:0≤IntKind.wrap .u64 x:=by have:IntKind.wrap .u64 x=x % 18446744073709551616:=rfl; omega
  have h1:=Int.emod_nonneg (IntKind.wrap .u64 x) (show (4294967294:Int)≠0 by decide)
  have h2:=Int.emod_lt_of_pos (IntKind.wrap .u64 x) (show (0:Int)<4294967294 by decide)
  unfold gd
  rw [Int.tmod_eq_emod_of_nonneg hw]
  rw [i64_id (n:=IntKind.wrap .u64 x % 4294967294) ⟨by omega,by omega⟩,i64_id ⟨by omega,by omega⟩]
  omega
theorem md_rng {m md:Int} (hm:0≤m∧m≤4294967295) (hd:0<md∧md≤4294967295):1≤IntKind.wrap .i64 (1+Int.tmod (IntKind.wrap .i64 m) md)∧IntKind.wrap .i64 (1+Int.tmod (IntKind.wrap .i64 m) md)≤md:=by
  rw [i64_id (n:=m) ⟨by omega,by omega⟩,Int.tmod_eq_emod_of_nonneg hm.1]
  have h1:=Int.emod_nonneg m (show md≠0 by omega)
  have h2:=Int.emod_lt_of_pos m hd.1
  rw [i64_id ⟨by omega,by omega⟩]
  omega
theorem lm9_true (a b c e f g h i m n:Int) (hm:0≤m∧m≤4294967295) (hn:0≤n∧n≤4294967295) :
    Tru (treeF (evF Tryz.prog (gam (lm9G Tryz.prog)) (lam []) 100 3) [lcfA a b c e f g h i,.sc false (.int .u32 m),.sc false (.int .u32 n)]):=by
  rw [lm9_tree]
  constructor
  unfold lm9_treeT
  have M:=md_rng (md:=1000) hm ⟨by decide,by decide⟩
  have T:=md_rng (md:=4294967293) hn ⟨by decide,by decide⟩
  have Ow:=gd_big (x:=i)
  have h1:=gd_rng (lo:=128) (md:=1365) (x:=a) ⟨by decide,by decide⟩ ⟨by decide,by decide⟩
  have h2:=gd_rng (lo:=1) (md:=5) (x:=b) ⟨by decide,by decide⟩ ⟨by decide,by decide⟩
  have h3:=gd_rng (lo:=1) (md:=4) (x:=c) ⟨by decide,by decide⟩ ⟨by decide,by decide⟩
  have h4:=gd0_rng (md:=5) (x:=e) ⟨by decide,by decide⟩
  have h5:=gd_rng (lo:=1) (md:=5) (x:=f) ⟨by decide,by decide⟩ ⟨by decide,by decide⟩
  have h6:=gd0_rng (md:=9) (x:=g) ⟨by decide,by decide⟩
  have h7:=gd_rng (lo:=1) (md:=4) (x:=h) ⟨by decide,by decide⟩ ⟨by decide,by decide⟩
  have hf:fitsB (gd 128 1365 a) (gd 1 5 b) (gd 1 4 c) (gd0 5 e) (gd 1 5 f) (gd0 9 g) (gd 1 4 h)=true:=(fitsB_iff ..).2 ⟨by omega,by omega,by omega,by omega,by omega,by omega,by omega⟩
  generalize IntKind.wrap .i64 (1+Int.tmod (IntKind.wrap .i64 m) 1000)=mm at M ⊢
  generalize IntKind.wrap .i64 (1+Int.tmod (IntKind.wrap .i64 n) 4294967293)=to at T ⊢
  generalize gd 1 4294967294 i=own at Ow ⊢
  generalize gd 128 1365 a=a at h1 hf ⊢
  generalize gd 1 5 b=b at h2 hf ⊢
  generalize gd 1 4 c=c at h3 hf ⊢
  generalize gd0 5 e=e at h4 hf ⊢
  generalize gd 1 5 f=f at h5 hf ⊢
  generalize gd0 9 g=g at h6 hf ⊢
  generalize gd 1 4 h=h at h7 hf ⊢
  have hmg:mgV (asksD a mm) mm=mm:=mg_own ⟨by omega,by omega⟩
  rw [hmg,hmg,hmg,hmg]
  rw [i64_id (n:=0+f) ⟨by omega,by omega⟩,i64_id (n:=1+f) ⟨by omega,by omega⟩]
  have hne:(bif decide (0<g) then IntKind.wrap .i64 (0+g) else 0)=0∨((9:Int)=9∧0<g∧1≤(bif decide (0<g) then IntKind.wrap .i64 (0+g) else 0)∧(bif decide (0<g) then IntKind.wrap .i64 (0+g) else 0)≤1099512676352):=by
    by_cases hg:0<g
    · rw [det hg,cond_true,i64_id ⟨by omega,by omega⟩]; exact .inr ⟨rfl,hg,by omega,by omega⟩
    · rw [def_ hg]; exact .inl rfl
  generalize (bif decide (0<g) then IntKind.wrap .i64 (0+g) else 0)=ne at hne ⊢
  have hnw:∀ k:Int,1≤k∧k≤4294967295→newB a b c e f g h k=true:=fun k hk=>(newB_iff ..).2 ⟨hf,hk⟩
  have hn1:=hnw 1 ⟨by decide,by decide⟩
  have hM:1≤mm∧mm≤4294967295:=⟨M.1,by omega⟩
  have hTo:1≤to∧to≤4294967294:=⟨T.1,by omega⟩
  have nt:∀ {p:Prop} [Decidable p],p→(!decide p)=false:=fun h=>by rw [det h]; rfl
  have hc:=cntN_rng (i:=b) (by omega)
  have tk0:(0:Int)≤0∧(0:Int)≤1099511627776:=⟨by decide,by decide⟩
  have tk1:(0:Int)≤1∧(1:Int)≤1099511627776:=⟨by decide,by decide⟩
  have L:∀ {st id rq ct tm ne:Int},soundB st id rq (asksD a mm) ct tm 0=true→(ne=0∨(st=9∧0<g∧1≤ne∧ne≤1099512676352))→lisB a b c e f g h st id rq (asksD a mm) ct tm 0 mm 0 1492 0 ne=true:=fun hs hne=>lis_ok hf hM ⟨by decide,by decide⟩ ⟨by decide,by decide⟩ ⟨by decide,by decide⟩ hs hne
  have z9:(0:Int)≤0∧(0:Int)≤255:=⟨by decide,by decide⟩
  have o9:(0:Int)≤1∧(1:Int)≤255:=⟨by decide,by decide⟩
  have k9:(0:Int)≤0∧(0:Int)≤1000:=⟨by decide,by decide⟩
  have hb:0≤b∧b≤1000:=⟨by omega,by omega⟩
  have s0:=L (sou_ok (ask_enc a mm) (st:=0) (id:=0) (rq:=0) (ct:=0) (tm:=0) (nk:=0) ⟨by decide,by decide⟩ z9 z9 k9 k9 (.inr ⟨by decide,rfl⟩)) (.inl rfl)
  have s2:=L (sou_ok (ask_enc a mm) (st:=2) (id:=0) (rq:=0) (ct:=0) (tm:=0) (nk:=0) ⟨by decide,by decide⟩ z9 z9 k9 k9 (.inr ⟨by decide,rfl⟩)) (.inl rfl)
  have s6:=L (sou_ok (ask_enc a mm) (st:=6) (id:=1) (rq:=1) (ct:=cntN b) (tm:=0+f) (nk:=0) ⟨by decide,by decide⟩ o9 o9 hc k9 (.inl ⟨⟨by decide,by decide⟩,by omega,by omega⟩)) (.inl rfl)
  have s7:=L (sou_ok (ask_enc a mm) (st:=7) (id:=1) (rq:=1) (ct:=b) (tm:=0+f) (nk:=0) ⟨by decide,by decide⟩ o9 o9 hb k9 (.inl ⟨⟨by decide,by decide⟩,by omega,by omega⟩)) (.inl rfl)
  have s9:=L (sou_ok (ask_enc a mm) (st:=9) (id:=1) (rq:=1) (ct:=b) (tm:=0) (nk:=0) ⟨by decide,by decide⟩ o9 o9 hb k9 (.inr ⟨by decide,rfl⟩)) hne
  have i6:soundB 6 1 1 (nfO own) (cntN b) (1+f) 0=true:=nf_sound ⟨by decide,by decide⟩ o9 o9 hc k9 (.inl ⟨⟨by decide,by decide⟩,by omega,by omega⟩)
  have i7:soundB 7 1 1 (nfO own) b (1+f) 0=true:=nf_sound ⟨by decide,by decide⟩ o9 o9 hb k9 (.inl ⟨⟨by decide,by decide⟩,by omega,by omega⟩)
  have i9:soundB 9 1 1 (nfO own) b 0 0=true:=nf_sound ⟨by decide,by decide⟩ o9 o9 hb k9 (.inr ⟨by decide,rfl⟩)
  have c6:=ich_ok (ow:=own) (pe:=to) hf ⟨Ow.1,by omega⟩ ⟨hTo.1,by omega⟩ i6
  have c7:=ich_ok (ow:=own) (pe:=to) hf ⟨Ow.1,by omega⟩ ⟨hTo.1,by omega⟩ i7
  have c9:=ich_ok (ow:=own) (pe:=to) hf ⟨Ow.1,by omega⟩ ⟨hTo.1,by omega⟩ i9
  have m6:=may_ok (pe:=to) (tk:=1) hf ⟨hTo.1,by omega⟩ i6 tk1
  have m7:=may_ok (pe:=to) (tk:=1) hf ⟨hTo.1,by omega⟩ i7 tk1
  refine holds_t (holds_t (holds_tt (hnw mm hM) (holds_tt hn1 (holds_tt (det Ow.1) (holds_ff (nt Ow.2) (holds_tt (lk1_ok hn1 Ow s0 (by decide)) ?_))))))
  refine holds_tt (and_tt (on9_ok s0 tk0) (ask_by a mm)) (holds_tt (and_tt (on9_ok s2 tk0) (ask_by a mm)) (holds_t ?_))
  refine holds_tt (and_tt (bytes_lit _ rfl (Nat.le_of_ble_eq_true rfl) ⟨okB_c,okB_c,okB_d,okB_d,okB_c,okB_c,okB_i,okB_i,okB_c,okB_c,okB_i,okB_i,okB_i,okB_i,trivial⟩) rfl) (holds_t (holds_t ?_))
  refine holds_tt (lk1_ok hn1 Ow s6 (by decide)) ?_
  refine holds_tt (and_tt (bytes_lit _ rfl (Nat.le_of_ble_eq_true rfl) ⟨okB_c,okB_c,okB_d,okB_d,okB_c,okB_c,okB_i,okB_i,okB_c,okB_c,okB_i,okB_i,okB_i,okB_i,trivial⟩) rfl) ?_
  refine holds_tt (and_tt (on9_ok s6 tk0) (and_tt (rq_bytes a mm) (ask_by a mm))) (holds_tt (c82_rq a mm) (holds_t (holds_t (holds_t (holds_t ?_)))))
  refine holds_tt (lk1_ok hn1 Ow s7 (by decide)) (holds_t ?_)
  refine holds_tt (and_tt (on9_ok s7 tk0) (and_tt rfl (ask_by a mm))) (holds_tt (c61_nil hM) (holds_t (holds_t ?_)))
  refine holds_tt (and_tt (lk2_ok hn1 Ow s9) (and_tt rfl (and_tt (det hTo) rfl))) ?_
  refine holds_tt (and_tt (bytes_lit _ rfl (Nat.le_of_ble_eq_true rfl) ⟨okB_c,okB_c,okB_d,okB_d,okB_c,okB_c,okB_i,okB_i,okB_i,okB_i,trivial⟩) rfl) (holds_t (holds_t ?_))
  refine holds_tt (lk3_ok hn1 Ow s9 hTo c6) ?_
  refine holds_tt (and_tt (bytes_lit _ rfl (Nat.le_of_ble_eq_true rfl) ⟨okB_c,okB_c,okB_d,okB_d,okB_c,okB_c,okB_i,okB_i,okB_i,okB_i,trivial⟩) rfl) ?_
  refine holds_tt (and_tt c6 (and_tt rfl (and_tt rfl (and_tt m6 (and_tt (nfX_by own) (nf_by own)))))) (holds_tt (c82_nf own) (holds_t (holds_t (holds_t (holds_t (holds_t (holds_t ?_)))))))
  refine holds_tt (lk3_ok hn1 Ow s9 hTo c7) ?_
  refine holds_tt (and_tt (bytes_lit _ rfl (Nat.le_of_ble_eq_true rfl) ⟨okB_c,okB_c,okB_d,okB_d,okB_c,okB_c,okB_u,okB_u,okB_u,okB_u,trivial⟩) rfl) ?_
  refine holds_tt (and_tt c7 (and_tt rfl (and_tt rfl (and_tt m7 (and_tt (adX_by to) (nf_by own)))))) (holds_tt (cRq_ad hTo) (holds_t (holds_ff rfl (holds_t ?_))))
  refine holds_tt (lk3_ok hn1 Ow s9 hTo c9) (holds_tt (beq_self_eq_true _) (holds_tt (beq_self_eq_true _) (holds_tt (sameL_refl ..) (holds_t (holds_t ?_)))))
  exact holds_tt (beq_self_eq_true _) (holds_t (holds_t (holds_tt (sameO_refl _) (holds_tt (beq_self_eq_true _) (le_bool (beq_self_eq_true _))))))
theorem good9_soundF:SoundF Tryz.prog 7 (pureS Tryz.prog 7 FGd9):=by
  refine pure_in (gs:=[]) (ls:=[]) mixed trivial trivial 7 100 fun args K ho H=>?_
  unfold FGd9 at H
  split at H
  · rename_i a b c e f g h i
    rw [gd9_tree]
    exact holds_t (holds_t (holds_t (holds_t (holds_t (holds_t (holds_t (holds_t ⟨_,Le.refl _,H⟩)))))))
  · exact H.elim
theorem rejK_soundF:SoundF Tryz.prog 71 (pureS Tryz.prog 71 FRejK):=by
  refine pureS_tree rej_soundF fun args K ho H=>?_
  unfold FRejK at H
  split at H
  · rename_i c i d
    obtain ⟨hc,H⟩:=need_holds H
    rw [Bool.and_eq_true,bne_iff_ne] at hc
    rw [rejK_tree]
    have h1:rejN c d=0:=by unfold rejN; rw [if_neg fun h=>hc.1 h.1]
    have h2:rejB c d=false:=by unfold rejB; exact def_ fun h=>hc.1 h.1
    exact holds_tt hc.2 ⟨_,le_two (le_int h1) (le_bool h2),H⟩
  · exact H.elim
theorem rencT_tree (d:D):treeF (pureS Tryz.prog 36 FEnc) [asl opS d] =
RT.ok (AV.tup [zs zU (encO d),zi (encE d)]):=by kernel_rfl
theorem rencT_soundF:SoundF Tryz.prog 36 (pureS Tryz.prog 36 FEncT):=by
  refine pureS_tree rencode_soundF fun args K ho H=>?_
  unfold FEncT at H
  split at H
  · rename_i d
    obtain ⟨hc,H⟩:=need_holds H
    rw [rencT_tree]
    exact ⟨_,le_two (le_raw rfl) (le_int (eq_of_beq hc)),H⟩
  · exact H.elim
theorem lm9_soundF:SoundF Tryz.prog 3 (evF Tryz.prog (gam (lm9G Tryz.prog)) (lam []) 100 3) :=
  evF_ok mixed (gam_ok (l:=lm9G Tryz.prog) ⟨good9_soundF,lnw_soundF,ldl_soundF,lpl_soundF,lkc_soundF,lea_soundF,ipk_soundF,encK_soundF,rencK_soundF,decK_soundF,rdecK_soundF,joinK_soundF,rencT_soundF,putV_soundF,rejK_soundF,rlsame_soundF,rsame_soundF,awk9_soundF,trivial⟩) (lam_ok (l:=[]) trivial) 100 _
theorem lm9_any {A:List AV} {a b c e f g h i m n:Int} (hA:A=[lcfA a b c e f g h i,.sc false (.int .u32 m),.sc false (.int .u32 n)]) (hm:0≤m∧m≤4294967295) (hn:0≤n∧n≤4294967295) :
    Tru (treeF (evF Tryz.prog (gam (lm9G Tryz.prog)) (lam []) 100 3) A):=by
  subst hA
  exact lm9_true a b c e f g h i m n hm hn
theorem rng_u32 {m:Int} (h:IntKind.u32.min≤m∧m≤IntKind.u32.max):0≤m∧m≤4294967295:=by
  have e1:IntKind.u32.min=0:=by decide
  have e2:IntKind.u32.max=4294967295:=by decide
  omega
theorem lm9_join (x0_0 x0_1 x0_2 x0_3 x0_4 x0_5 x0_6 x0_7 x1_0 x2_0:D) (_:wfL [.int .i64,.int .i64,.int .i64,.int .i64,.int .i64,.int .i64,.int .i64,.int .i64] [x0_0,x0_1,x0_2,x0_3,x0_4,x0_5,x0_6,x0_7]) (g1:wfL [.int .u32] [x1_0]) (g2:wfL [.int .u32] [x2_0]) :
    Tru (treeF (evF Tryz.prog (gam (lm9G Tryz.prog)) (lam []) 100 3) [.agg (avL [.int .i64,.int .i64,.int .i64,.int .i64,.int .i64,.int .i64,.int .i64,.int .i64] [x0_0,x0_1,x0_2,x0_3,x0_4,x0_5,x0_6,x0_7]),leaf false (.int .u32) x1_0,leaf false (.int .u32) x2_0]) :=
  lm9_any (show ([.agg (avL [.int .i64,.int .i64,.int .i64,.int .i64,.int .i64,.int .i64,.int .i64,.int .i64] [x0_0,x0_1,x0_2,x0_3,x0_4,x0_5,x0_6,x0_7]),leaf false (.int .u32) x1_0,leaf false (.int .u32) x2_0]:List AV)=[lcfA x0_0.toI x0_1.toI x0_2.toI x0_3.toI x0_4.toI x0_5.toI x0_6.toI x0_7.toI,.sc false (.int .u32 x1_0.toI),.sc false (.int .u32 x2_0.toI)] from rfl) (rng_u32 g1.1) (rng_u32 g2.1)
end
end Go.Proofs.YtbgmclbcjdbcmaaGreat
