import Derived.KernelRfl
import Derived.Test.YthhfobdhkndpgaaGreatDoorEvA
import Derived.Test.YthhfobdhkndpgaaGreatDoorProg
set_option linter.all false
set_option maxRecDepth 100000
set_option linter.all false
noncomputable section
namespace Go.Proofs
open Go Go.Ev
/- (sibyl/free.put).node -/
def A107.a0 : Ann := .items [.opL 0, .opL 1, .opL 2]
def A107.a1 : Ann := .items [.op 0, .op 1, .op 2, .op 3, .op 4, .op 5, .op 6, .opL 7, .op 8, .op 9]
def A107.a2 : Ann := .items [.op 0, .op 1, .op 2, .op 3, .split 21, .op 4, .op 5, .op 6]
def A107.a3 : Ann := .items [.op 0, .op 1, .op 2]
def A107.a4 : Ann := .items [.op 0, .op 1, .op 2, .op 3]
def A107.a5 : Ann := .items [.op 0, .op 1]
def A107.a6 : Ann := .leaf
def A107.a7 : Ann := .two A107.a5 A107.a6
def A107.a8 : Ann := .two A107.a4 A107.a7
def A107.a9 : Ann := .two A107.a3 A107.a8
def A107.a10 : Ann := .items [.op 0, .op 1, .op 2, .op 3, .split 34, .op 4, .op 5, .op 6, .split 37, .op 7, .op 8, .op 9, .op 10, .op 11]
def A107.a11 : Ann := .items [.op 0, .op 1, .op 2, .op 3]
def A107.a12 : Ann := .items [.op 0, .op 1]
def A107.a13 : Ann := .leaf
def A107.a14 : Ann := .two A107.a12 A107.a13
def A107.a15 : Ann := .two A107.a11 A107.a14
def A107.a16 : Ann := .items [.op 0, .op 1, .op 2]
def A107.a17 : Ann := .items [.op 0, .op 1, .op 2, .op 3]
def A107.a18 : Ann := .leaf
def A107.a19 : Ann := .two A107.a17 A107.a18
def A107.a20 : Ann := .leaf
def A107.a21 : Ann := .two A107.a19 A107.a20
def A107.a22 : Ann := .two A107.a16 A107.a21
def A107.a23 : Ann := .two A107.a15 A107.a22
def A107.a24 : Ann := .join [2, 3, 4, 5, 30] [2, 3, 4, 5] A107.a10 A107.a23
def A107.a25 : Ann := .two A107.a9 A107.a24
def A107.a26 : Ann := .join [2, 3, 4, 5, 6, 17] [2, 3, 4, 5] A107.a2 A107.a25
def A107.a27 : Ann := .one A107.a26
def A107.a28 : Ann := .items [.op 0]
def A107.a29 : Ann := .items [.op 0, .op 1, .op 2, .op 3]
def A107.a30 : Ann := .items [.op 0]
def A107.a31 : Ann := .leaf
def A107.a32 : Ann := .leaf
def A107.a33 : Ann := .two A107.a31 A107.a32
def A107.a34 : Ann := .items [.op 0, .op 1, .opL 2, .op 3]
def A107.a35 : Ann := .items [.op 0, .op 1, .op 2, .op 3, .opL 4, .op 5, .op 6]
def A107.a36 : Ann := .two A107.a34 A107.a35
def A107.a37 : Ann := .one A107.a36
def A107.a38 : Ann := .items [.op 0, .op 1]
def A107.a39 : Ann := .two A107.a37 A107.a38
def A107.a40 : Ann := .two A107.a33 A107.a39
def A107.a41 : Ann := .two A107.a30 A107.a40
def A107.a42 : Ann := .meet [2, 3, 4, 7, 53, 54, 55] [2, 3, 4] A107.a41
def A107.a43 : Ann := .one A107.a42
def A107.a44 : Ann := .two A107.a29 A107.a43
def A107.a45 : Ann := .items [.op 0, .op 1, .op 2]
def A107.a46 : Ann := .items [.op 0, .op 1, .op 2]
def A107.a47 : Ann := .leaf
def A107.a48 : Ann := .two A107.a46 A107.a47
def A107.a49 : Ann := .two A107.a45 A107.a48
def A107.a50 : Ann := .two A107.a44 A107.a49
def A107.a51 : Ann := .two A107.a28 A107.a50
def A107.a52 : Ann := .join [2, 3, 4] [2, 3, 4] A107.a27 A107.a51
def A107.a53 : Ann := .two A107.a1 A107.a52
def A107.an : Ann := .two A107.a0 A107.a53
def E107_1 (N : Nat) (call : CT) : K3 :=
  (codeK Tryz.prog N call (c2 (c2 (c2 (bodyOf Tryz.f107)))) A107.a51 (resK Tryz.prog Tryz.f107.results.toList) (fun _ _ _ _ => none) (resK Tryz.prog Tryz.f107.results.toList))
def E107_2 (N : Nat) (call : CT) : K3 :=
  (codeK Tryz.prog N call (c2 (c1 (c1 (c2 (c2 (bodyOf Tryz.f107)))))) A107.a25 (fun T L h => (E107_1 N call) (keepT [2, 3, 4] T) (keepL [2, 3, 4] L) h) (fun i T L h => match Nat.beq i 0 with | true => (fun T L h => (E107_1 N call) (keepT [2, 3, 4] T) (keepL [2, 3, 4] L) h) T L h | false => (fun _ _ _ _ => none) i T L h) (resK Tryz.prog Tryz.f107.results.toList))
def E107_3 (N : Nat) (call : CT) : K3 :=
  (codeK Tryz.prog N call (c2 (c2 (c2 (c1 (c1 (c2 (c2 (bodyOf Tryz.f107)))))))) A107.a23 (fun T L h => (E107_1 N call) (keepT [2, 3, 4] T) (keepL [2, 3, 4] L) h) (fun i T L h => match Nat.beq i 0 with | true => (fun T L h => (E107_1 N call) (keepT [2, 3, 4] T) (keepL [2, 3, 4] L) h) T L h | false => (fun _ _ _ _ => none) i T L h) (resK Tryz.prog Tryz.f107.results.toList))
def F107_4 (N : Nat) (call : CT) (self : K3) : K3 :=
  (codeK Tryz.prog N call (c1 (c1 (c2 (c1 (c2 (c2 (c2 (c2 (bodyOf Tryz.f107))))))))) A107.a41 (fun T L h => self (keepT [2, 3, 4, 7, 53, 54, 55] T) (keepL [2, 3, 4] L) h) (fun i T L h => match Nat.beq i 1 with | true => (codeK Tryz.prog N call (c2 (c2 (c2 (c2 (c2 (bodyOf Tryz.f107)))))) A107.a49 (resK Tryz.prog Tryz.f107.results.toList) (fun _ _ _ _ => none) (resK Tryz.prog Tryz.f107.results.toList)) T L h | false => (fun _ _ _ _ => none) i T L h) (resK Tryz.prog Tryz.f107.results.toList))
def E107_4 (N : Nat) (call : CT) : K3 := iter (F107_4 N call) N
def S107_1 (call : CT) (k4 : OA → Nat → Option Nat → OA → Nat → Option Nat → Int → Int → AV → AV → AV → AV → AV → AV → AV → AV → AV → AV → AV → AV → H → R) (l2_0 l2_1 : AV) (l3_0 l3_1 : AV) (l3_2 l3_3 : AV) (l3_4 l4_0 : AV) (l4_1 l4_2 : AV) (l4_3 l4_4 : AV) (h : H) : R :=
  onSlice l3_4 (fun a1 n2 c3 => k4 none 0 (some 0) a1 n2 c3 (Int.ofNat n2) (Int.ofNat 0) l2_0 l2_1 l3_0 l3_1 l3_2 l3_3 l3_4 l4_0 l4_1 l4_2 l4_3 l4_4 h)
def S107_2 (call : CT) (k3 : Bool → AV → AV → AV → AV → AV → AV → AV → AV → AV → AV → AV → AV → AV → AV → AV → AV → AV → H → R) (x_6 x_17 : Bool) (l2_0 l2_1 : AV) (l3_0 l3_1 : AV) (l3_2 l3_3 : AV) (l3_4 l4_0 : AV) (l4_1 l4_2 : AV) (l4_3 l4_4 : AV) (l5_0 l5_1 : AV) (l5_2 l5_3 l5_4 : AV) (h : H) : R :=
  ifB x_17 (bindR (call 123 [(.agg [l5_0, l5_1, l5_2, l5_3, l5_4])] h) (fun v1 h2 => onAgR v1 (fun l8 => row5 (fun x3 x4 x5 x6 x7 => onInt .i64 l3_3 (fun i9 => some ((.agg [x3, x4, x5, (.int .i64 i9), x7]), h2))) l8))) (onStr l3_0 (fun s10 => ifB (eqS s10 [105, 115]) (ifB x_6 (onStr l5_0 (fun s11 => k3 (eqS s11 [118, 97, 114]) l2_0 l2_1 l3_0 l3_1 l3_2 l3_3 l3_4 l4_0 l4_1 l4_2 l4_3 l4_4 l5_0 l5_1 l5_2 l5_3 l5_4 h)) (k3 false l2_0 l2_1 l3_0 l3_1 l3_2 l3_3 l3_4 l4_0 l4_1 l4_2 l4_3 l4_4 l5_0 l5_1 l5_2 l5_3 l5_4 h)) (k3 false l2_0 l2_1 l3_0 l3_1 l3_2 l3_3 l3_4 l4_0 l4_1 l4_2 l4_3 l4_4 l5_0 l5_1 l5_2 l5_3 l5_4 h)))
def S107_3 (call : CT) (k1 : AV → AV → AV → AV → AV → AV → AV → AV → AV → AV → AV → AV → H → R) (x_30 : Bool) (l2_0 l2_1 : AV) (l3_0 l3_1 : AV) (l3_2 l3_3 : AV) (l3_4 l4_0 : AV) (l4_1 l4_2 : AV) (l4_3 l4_4 : AV) (l5_0 l5_1 : AV) (l5_2 l5_3 l5_4 : AV) (h : H) : R :=
  ifB x_30 (onStr l5_1 (fun s1 => some ((.agg [l3_0, (.str s1), l3_2, l3_3, l3_4]), h))) (bindR (call 124 [(.agg [l3_0, l3_1, l3_2, l3_3, l3_4])] h) (fun v2 h3 => onBool v2 (fun e4 => ifB e4 (bindR (call 125 [(.agg [l2_0, l2_1]), (.agg [l3_0, l3_1, l3_2, l3_3, l3_4])] h3) (fun v5 h6 => onAgR v5 (fun l12 => row5 (fun x7 x8 x9 x10 x11 => some ((.agg [x7, x8, x9, x10, x11]), h6)) l12))) (k1 l2_0 l2_1 l3_0 l3_1 l3_2 l3_3 l3_4 l4_0 l4_1 l4_2 l4_3 l4_4 h3))))
def S107_4 (call : CT) (k4 : OA → Nat → Option Nat → OA → Nat → Option Nat → Int → Int → AV → AV → AV → AV → AV → AV → AV → AV → AV → AV → AV → AV → H → R) (a_7 : OA) (n_7 : Nat) (c_7 : Option Nat) (a_53 : OA) (n_53 : Nat) (c_53 : Option Nat) (x_54 x_55 : Int) (l2_0 l2_1 : AV) (l3_0 l3_1 : AV) (l3_2 l3_3 : AV) (l3_4 l4_0 : AV) (l4_1 l4_2 : AV) (l4_3 l4_4 : AV) (h : H) : R :=
  ifB (ltI x_55 x_54) (idxAddr 5 a_53 n_53 x_55 (fun b1 o2 => ldK h b1 o2 5 (fun l3 => row5 (fun x4 x5 x6 x7 x8 => bindR (call 107 [(.agg [l2_0, l2_1]), (.agg [x4, x5, x6, x7, x8])] h) (fun v9 h10 => onAgR v9 (fun l16 => row5 (fun x11 x12 x13 x14 x15 => appL h10 5 a_7 n_7 c_7 1 [x11, x12, x13, x14, x15] (fun a17 n18 c19 h20 => k4 a17 n18 c19 a_53 n_53 c_53 x_54 (wrapF .i64 (Int.add x_55 (Int.ofNat 1))) l2_0 l2_1 l3_0 l3_1 l3_2 l3_3 l3_4 l4_0 l4_1 l4_2 l4_3 l4_4 h20)) l16))) l3))) (bindR (call 126 [(.agg [l3_0, l3_1, l3_2, l3_3, (.slice a_7 n_7 c_7)])] h) (fun v21 h22 => onAgR v21 (fun l28 => row5 (fun x23 x24 x25 x26 x27 => some ((.agg [x23, x24, x25, x26, x27]), h22)) l28)))
def S107_0 (call : CT) (k2 : Bool → Bool → AV → AV → AV → AV → AV → AV → AV → AV → AV → AV → AV → AV → AV → AV → AV → AV → AV → H → R) (y0 y1 : AV) (h : H) : R :=
  onAgR y0 (fun l3 => row2 (fun x1 x2 => onAgR y1 (fun l9 => row5 (fun x4 x5 x6 x7 x8 => onStr x5 (fun s10 => bindR (call 122 [(.agg [x1, x2]), (.str s10)] h) (fun v11 h12 => onTuple v11 0 (fun v13 => onAgR v13 (fun l19 => row5 (fun x14 x15 x16 x17 x18 => onTuple v11 1 (fun v20 => onBool v20 (fun e21 => onStr x4 (fun s22 => ifB (eqS s22 [118, 97, 114]) (k2 e21 e21 x1 x2 x4 x5 x6 x7 x8 (.str []) (.str []) (.int .i64 (Int.ofNat 0)) (.int .i64 (Int.ofNat 0)) (.slice none 0 (some 0)) x14 x15 x16 x17 x18 h12) (k2 e21 false x1 x2 x4 x5 x6 x7 x8 (.str []) (.str []) (.int .i64 (Int.ofNat 0)) (.int .i64 (Int.ofNat 0)) (.slice none 0 (some 0)) x14 x15 x16 x17 x18 h12))))) l19))))) l9)) l3)
def B107_4 (N : Nat) (call : CT) (ih : OA → Nat → Option Nat → OA → Nat → Option Nat → Int → Int → AV → AV → AV → AV → AV → AV → AV → AV → AV → AV → AV → AV → H → R) : OA → Nat → Option Nat → OA → Nat → Option Nat → Int → Int → AV → AV → AV → AV → AV → AV → AV → AV → AV → AV → AV → AV → H → R := S107_4 call ih
def I107_4 (N : Nat) (call : CT) (n : Nat) : OA → Nat → Option Nat → OA → Nat → Option Nat → Int → Int → AV → AV → AV → AV → AV → AV → AV → AV → AV → AV → AV → AV → H → R := Nat.rec (motive := fun _ => OA → Nat → Option Nat → OA → Nat → Option Nat → Int → Int → AV → AV → AV → AV → AV → AV → AV → AV → AV → AV → AV → AV → H → R) (fun _ _ _ _ _ _ _ _ _ _ _ _ _ _ _ _ _ _ _ _ _ => none) (fun _ ih => B107_4 N call ih) n
def C107_4 (N : Nat) (call : CT) : OA → Nat → Option Nat → OA → Nat → Option Nat → Int → Int → AV → AV → AV → AV → AV → AV → AV → AV → AV → AV → AV → AV → H → R := I107_4 N call N
def C107_1 (N : Nat) (call : CT) : AV → AV → AV → AV → AV → AV → AV → AV → AV → AV → AV → AV → H → R := S107_1 call (C107_4 N call)
def C107_3 (N : Nat) (call : CT) : Bool → AV → AV → AV → AV → AV → AV → AV → AV → AV → AV → AV → AV → AV → AV → AV → AV → AV → H → R := S107_3 call (C107_1 N call)
def C107_2 (N : Nat) (call : CT) : Bool → Bool → AV → AV → AV → AV → AV → AV → AV → AV → AV → AV → AV → AV → AV → AV → AV → AV → AV → H → R := S107_2 call (C107_3 N call)
def S107 (N : Nat) (call : CT) (y0 y1 : AV) (h : H) : R := S107_0 call (C107_2 N call) y0 y1 h
def T107_1 (l2_0 l2_1 : AV) (l3_0 l3_1 : AV) (l3_2 l3_3 : AV) (l3_4 l4_0 : AV) (l4_1 l4_2 : AV) (l4_3 l4_4 : AV) : LF := [none, none, (some (.lptr 2 0)), (some (.lptr 3 0)), (some (.lptr 4 0)), oo, oo, oo, oo, oo, oo, oo, oo, oo, oo, oo, oo, oo, oo, oo, oo, oo, oo, oo, oo, oo, oo, oo, oo, oo, oo, oo, oo, oo, oo, oo, oo, oo, oo, oo, oo, oo, oo, oo, oo, oo, oo, oo, oo, oo, oo, oo, oo, oo, oo, oo, oo, oo, oo, oo, oo, oo, oo, oo, oo, oo, oo, oo, oo, oo]
def L107_1 (l2_0 l2_1 : AV) (l3_0 l3_1 : AV) (l3_2 l3_3 : AV) (l3_4 l4_0 : AV) (l4_1 l4_2 : AV) (l4_3 l4_4 : AV) : LL := [none, none, (some (.cells [l2_0, l2_1])), (some (.cells [l3_0, l3_1, l3_2, l3_3, l3_4])), (some (.cells [l4_0, l4_1, l4_2, l4_3, l4_4])), oo, oo, oo, oo, oo, oo, oo, oo, oo, oo, oo, oo, oo, oo, oo, oo, oo, oo, oo, oo, oo, oo, oo, oo, oo, oo, oo, oo, oo, oo, oo, oo, oo, oo, oo, oo, oo, oo, oo, oo, oo, oo, oo, oo, oo, oo, oo, oo, oo, oo, oo, oo, oo, oo, oo, oo, oo, oo, oo, oo, oo, oo, oo, oo, oo]
def T107_2 (x_6 x_17 : Bool) (l2_0 l2_1 : AV) (l3_0 l3_1 : AV) (l3_2 l3_3 : AV) (l3_4 l4_0 : AV) (l4_1 l4_2 : AV) (l4_3 l4_4 : AV) (l5_0 l5_1 : AV) (l5_2 l5_3 l5_4 : AV) : LF := [none, none, (some (.lptr 2 0)), (some (.lptr 3 0)), (some (.lptr 4 0)), (some (.lptr 5 0)), (some (.v (.bool x_6))), oo, oo, oo, oo, oo, oo, oo, oo, oo, oo, (some (.v (.bool x_17))), oo, oo, oo, oo, oo, oo, oo, oo, oo, oo, oo, oo, oo, oo, oo, oo, oo, oo, oo, oo, oo, oo, oo, oo, oo, oo, oo, oo, oo, oo, oo, oo, oo, oo, oo, oo, oo, oo, oo, oo, oo, oo, oo, oo, oo, oo, oo, oo, oo, oo, oo, oo]
def L107_2 (x_6 x_17 : Bool) (l2_0 l2_1 : AV) (l3_0 l3_1 : AV) (l3_2 l3_3 : AV) (l3_4 l4_0 : AV) (l4_1 l4_2 : AV) (l4_3 l4_4 : AV) (l5_0 l5_1 : AV) (l5_2 l5_3 l5_4 : AV) : LL := [none, none, (some (.cells [l2_0, l2_1])), (some (.cells [l3_0, l3_1, l3_2, l3_3, l3_4])), (some (.cells [l4_0, l4_1, l4_2, l4_3, l4_4])), (some (.cells [l5_0, l5_1, l5_2, l5_3, l5_4])), oo, oo, oo, oo, oo, oo, oo, oo, oo, oo, oo, oo, oo, oo, oo, oo, oo, oo, oo, oo, oo, oo, oo, oo, oo, oo, oo, oo, oo, oo, oo, oo, oo, oo, oo, oo, oo, oo, oo, oo, oo, oo, oo, oo, oo, oo, oo, oo, oo, oo, oo, oo, oo, oo, oo, oo, oo, oo, oo, oo, oo, oo, oo, oo]
def T107_3 (x_30 : Bool) (l2_0 l2_1 : AV) (l3_0 l3_1 : AV) (l3_2 l3_3 : AV) (l3_4 l4_0 : AV) (l4_1 l4_2 : AV) (l4_3 l4_4 : AV) (l5_0 l5_1 : AV) (l5_2 l5_3 l5_4 : AV) : LF := [none, none, (some (.lptr 2 0)), (some (.lptr 3 0)), (some (.lptr 4 0)), (some (.lptr 5 0)), oo, oo, oo, oo, oo, oo, oo, oo, oo, oo, oo, oo, oo, oo, oo, oo, oo, oo, oo, oo, oo, oo, oo, oo, (some (.v (.bool x_30))), oo, oo, oo, oo, oo, oo, oo, oo, oo, oo, oo, oo, oo, oo, oo, oo, oo, oo, oo, oo, oo, oo, oo, oo, oo, oo, oo, oo, oo, oo, oo, oo, oo, oo, oo, oo, oo, oo, oo]
def L107_3 (x_30 : Bool) (l2_0 l2_1 : AV) (l3_0 l3_1 : AV) (l3_2 l3_3 : AV) (l3_4 l4_0 : AV) (l4_1 l4_2 : AV) (l4_3 l4_4 : AV) (l5_0 l5_1 : AV) (l5_2 l5_3 l5_4 : AV) : LL := [none, none, (some (.cells [l2_0, l2_1])), (some (.cells [l3_0, l3_1, l3_2, l3_3, l3_4])), (some (.cells [l4_0, l4_1, l4_2, l4_3, l4_4])), (some (.cells [l5_0, l5_1, l5_2, l5_3, l5_4])), oo, oo, oo, oo, oo, oo, oo, oo, oo, oo, oo, oo, oo, oo, oo, oo, oo, oo, oo, oo, oo, oo, oo, oo, oo, oo, oo, oo, oo, oo, oo, oo, oo, oo, oo, oo, oo, oo, oo, oo, oo, oo, oo, oo, oo, oo, oo, oo, oo, oo, oo, oo, oo, oo, oo, oo, oo, oo, oo, oo, oo, oo, oo, oo]
def T107_4 (a_7 : OA) (n_7 : Nat) (c_7 : Option Nat) (a_53 : OA) (n_53 : Nat) (c_53 : Option Nat) (x_54 x_55 : Int) (l2_0 l2_1 : AV) (l3_0 l3_1 : AV) (l3_2 l3_3 : AV) (l3_4 l4_0 : AV) (l4_1 l4_2 : AV) (l4_3 l4_4 : AV) : LF := [none, none, (some (.lptr 2 0)), (some (.lptr 3 0)), (some (.lptr 4 0)), none, none, (some (.v (.slice a_7 n_7 c_7))), oo, oo, oo, oo, oo, oo, oo, oo, oo, oo, oo, oo, oo, oo, oo, oo, oo, oo, oo, oo, oo, oo, oo, oo, oo, oo, oo, oo, oo, oo, oo, oo, oo, oo, oo, oo, oo, oo, oo, oo, oo, oo, oo, oo, oo, (some (.v (.slice a_53 n_53 c_53))), (some (.v (.int .i64 x_54))), (some (.v (.int .i64 x_55))), oo, oo, oo, oo, oo, oo, oo, oo, oo, oo, oo, oo, oo, oo]
def L107_4 (a_7 : OA) (n_7 : Nat) (c_7 : Option Nat) (a_53 : OA) (n_53 : Nat) (c_53 : Option Nat) (x_54 x_55 : Int) (l2_0 l2_1 : AV) (l3_0 l3_1 : AV) (l3_2 l3_3 : AV) (l3_4 l4_0 : AV) (l4_1 l4_2 : AV) (l4_3 l4_4 : AV) : LL := [none, none, (some (.cells [l2_0, l2_1])), (some (.cells [l3_0, l3_1, l3_2, l3_3, l3_4])), (some (.cells [l4_0, l4_1, l4_2, l4_3, l4_4])), oo, oo, oo, oo, oo, oo, oo, oo, oo, oo, oo, oo, oo, oo, oo, oo, oo, oo, oo, oo, oo, oo, oo, oo, oo, oo, oo, oo, oo, oo, oo, oo, oo, oo, oo, oo, oo, oo, oo, oo, oo, oo, oo, oo, oo, oo, oo, oo, oo, oo, oo, oo, oo, oo, oo, oo, oo, oo, oo, oo, oo, oo, oo, oo, oo]
theorem R107_4 (N : Nat) (call : CT) (self : K3) (a_7 : OA) (n_7 : Nat) (c_7 : Option Nat) (a_53 : OA) (n_53 : Nat) (c_53 : Option Nat) (x_54 x_55 : Int) (l2_0 l2_1 : AV) (l3_0 l3_1 : AV) (l3_2 l3_3 : AV) (l3_4 l4_0 : AV) (l4_1 l4_2 : AV) (l4_3 l4_4 : AV) (h : H) : F107_4 N call self (T107_4 a_7 n_7 c_7 a_53 n_53 c_53 x_54 x_55 l2_0 l2_1 l3_0 l3_1 l3_2 l3_3 l3_4 l4_0 l4_1 l4_2 l4_3 l4_4) (L107_4 a_7 n_7 c_7 a_53 n_53 c_53 x_54 x_55 l2_0 l2_1 l3_0 l3_1 l3_2 l3_3 l3_4 l4_0 l4_1 l4_2 l4_3 l4_4) h = S107_4 call (fun (a_7 : OA) (n_7 : Nat) (c_7 : Option Nat) (a_53 : OA) (n_53 : Nat) (c_53 : Option Nat) (x_54 x_55 : Int) (l2_0 l2_1 : AV) (l3_0 l3_1 : AV) (l3_2 l3_3 : AV) (l3_4 l4_0 : AV) (l4_1 l4_2 : AV) (l4_3 l4_4 : AV) h => self (T107_4 a_7 n_7 c_7 a_53 n_53 c_53 x_54 x_55 l2_0 l2_1 l3_0 l3_1 l3_2 l3_3 l3_4 l4_0 l4_1 l4_2 l4_3 l4_4) (L107_4 a_7 n_7 c_7 a_53 n_53 c_53 x_54 x_55 l2_0 l2_1 l3_0 l3_1 l3_2 l3_3 l3_4 l4_0 l4_1 l4_2 l4_3 l4_4) h) a_7 n_7 c_7 a_53 n_53 c_53 x_54 x_55 l2_0 l2_1 l3_0 l3_1 l3_2 l3_3 l3_4 l4_0 l4_1 l4_2 l4_3 l4_4 h := by kernel_rfl
theorem Q107_4 (N : Nat) (call : CT) (n : Nat) : ∀ (a_7 : OA) (n_7 : Nat) (c_7 : Option Nat) (a_53 : OA) (n_53 : Nat) (c_53 : Option Nat) (x_54 x_55 : Int) (l2_0 l2_1 : AV) (l3_0 l3_1 : AV) (l3_2 l3_3 : AV) (l3_4 l4_0 : AV) (l4_1 l4_2 : AV) (l4_3 l4_4 : AV) (h : H), (iter (F107_4 N call) n) (T107_4 a_7 n_7 c_7 a_53 n_53 c_53 x_54 x_55 l2_0 l2_1 l3_0 l3_1 l3_2 l3_3 l3_4 l4_0 l4_1 l4_2 l4_3 l4_4) (L107_4 a_7 n_7 c_7 a_53 n_53 c_53 x_54 x_55 l2_0 l2_1 l3_0 l3_1 l3_2 l3_3 l3_4 l4_0 l4_1 l4_2 l4_3 l4_4) h = I107_4 N call n a_7 n_7 c_7 a_53 n_53 c_53 x_54 x_55 l2_0 l2_1 l3_0 l3_1 l3_2 l3_3 l3_4 l4_0 l4_1 l4_2 l4_3 l4_4 h := by
  induction n with
  | zero => intros; exact (iter_zero _ _ _ _).trans (by kernel_rfl)
  | succ n ih =>
    intro a_7 n_7 c_7 a_53 n_53 c_53 x_54 x_55 l2_0 l2_1 l3_0 l3_1 l3_2 l3_3 l3_4 l4_0 l4_1 l4_2 l4_3 l4_4 h
    have e0 : (fun (a_7 : OA) (n_7 : Nat) (c_7 : Option Nat) (a_53 : OA) (n_53 : Nat) (c_53 : Option Nat) (x_54 x_55 : Int) (l2_0 l2_1 : AV) (l3_0 l3_1 : AV) (l3_2 l3_3 : AV) (l3_4 l4_0 : AV) (l4_1 l4_2 : AV) (l4_3 l4_4 : AV) h => (iter (F107_4 N call) n) (T107_4 a_7 n_7 c_7 a_53 n_53 c_53 x_54 x_55 l2_0 l2_1 l3_0 l3_1 l3_2 l3_3 l3_4 l4_0 l4_1 l4_2 l4_3 l4_4) (L107_4 a_7 n_7 c_7 a_53 n_53 c_53 x_54 x_55 l2_0 l2_1 l3_0 l3_1 l3_2 l3_3 l3_4 l4_0 l4_1 l4_2 l4_3 l4_4) h) = (I107_4 N call n) := by funext a_7 n_7 c_7 a_53 n_53 c_53 x_54 x_55 l2_0 l2_1 l3_0 l3_1 l3_2 l3_3 l3_4 l4_0 l4_1 l4_2 l4_3 l4_4 h; exact ih a_7 n_7 c_7 a_53 n_53 c_53 x_54 x_55 l2_0 l2_1 l3_0 l3_1 l3_2 l3_3 l3_4 l4_0 l4_1 l4_2 l4_3 l4_4 h
    have r := R107_4 N call (iter (F107_4 N call) n) a_7 n_7 c_7 a_53 n_53 c_53 x_54 x_55 l2_0 l2_1 l3_0 l3_1 l3_2 l3_3 l3_4 l4_0 l4_1 l4_2 l4_3 l4_4 h
    rw [e0] at r
    have g := iter_succ (F107_4 N call) n (T107_4 a_7 n_7 c_7 a_53 n_53 c_53 x_54 x_55 l2_0 l2_1 l3_0 l3_1 l3_2 l3_3 l3_4 l4_0 l4_1 l4_2 l4_3 l4_4) (L107_4 a_7 n_7 c_7 a_53 n_53 c_53 x_54 x_55 l2_0 l2_1 l3_0 l3_1 l3_2 l3_3 l3_4 l4_0 l4_1 l4_2 l4_3 l4_4) h
    have z : S107_4 call (I107_4 N call n) a_7 n_7 c_7 a_53 n_53 c_53 x_54 x_55 l2_0 l2_1 l3_0 l3_1 l3_2 l3_3 l3_4 l4_0 l4_1 l4_2 l4_3 l4_4 h = I107_4 N call (n + 1) a_7 n_7 c_7 a_53 n_53 c_53 x_54 x_55 l2_0 l2_1 l3_0 l3_1 l3_2 l3_3 l3_4 l4_0 l4_1 l4_2 l4_3 l4_4 h := by kernel_rfl
    exact g.trans (r.trans z)
theorem Z107_4 (N : Nat) (call : CT) (a_7 : OA) (n_7 : Nat) (c_7 : Option Nat) (a_53 : OA) (n_53 : Nat) (c_53 : Option Nat) (x_54 x_55 : Int) (l2_0 l2_1 : AV) (l3_0 l3_1 : AV) (l3_2 l3_3 : AV) (l3_4 l4_0 : AV) (l4_1 l4_2 : AV) (l4_3 l4_4 : AV) (h : H) : (E107_4 N call) (T107_4 a_7 n_7 c_7 a_53 n_53 c_53 x_54 x_55 l2_0 l2_1 l3_0 l3_1 l3_2 l3_3 l3_4 l4_0 l4_1 l4_2 l4_3 l4_4) (L107_4 a_7 n_7 c_7 a_53 n_53 c_53 x_54 x_55 l2_0 l2_1 l3_0 l3_1 l3_2 l3_3 l3_4 l4_0 l4_1 l4_2 l4_3 l4_4) h = C107_4 N call a_7 n_7 c_7 a_53 n_53 c_53 x_54 x_55 l2_0 l2_1 l3_0 l3_1 l3_2 l3_3 l3_4 l4_0 l4_1 l4_2 l4_3 l4_4 h := by
  have g : (E107_4 N call) (T107_4 a_7 n_7 c_7 a_53 n_53 c_53 x_54 x_55 l2_0 l2_1 l3_0 l3_1 l3_2 l3_3 l3_4 l4_0 l4_1 l4_2 l4_3 l4_4) (L107_4 a_7 n_7 c_7 a_53 n_53 c_53 x_54 x_55 l2_0 l2_1 l3_0 l3_1 l3_2 l3_3 l3_4 l4_0 l4_1 l4_2 l4_3 l4_4) h = iter (F107_4 N call) N (T107_4 a_7 n_7 c_7 a_53 n_53 c_53 x_54 x_55 l2_0 l2_1 l3_0 l3_1 l3_2 l3_3 l3_4 l4_0 l4_1 l4_2 l4_3 l4_4) (L107_4 a_7 n_7 c_7 a_53 n_53 c_53 x_54 x_55 l2_0 l2_1 l3_0 l3_1 l3_2 l3_3 l3_4 l4_0 l4_1 l4_2 l4_3 l4_4) h := by kernel_rfl
  have z : I107_4 N call N a_7 n_7 c_7 a_53 n_53 c_53 x_54 x_55 l2_0 l2_1 l3_0 l3_1 l3_2 l3_3 l3_4 l4_0 l4_1 l4_2 l4_3 l4_4 h = C107_4 N call a_7 n_7 c_7 a_53 n_53 c_53 x_54 x_55 l2_0 l2_1 l3_0 l3_1 l3_2 l3_3 l3_4 l4_0 l4_1 l4_2 l4_3 l4_4 h := by kernel_rfl
  exact g.trans ((Q107_4 N call N a_7 n_7 c_7 a_53 n_53 c_53 x_54 x_55 l2_0 l2_1 l3_0 l3_1 l3_2 l3_3 l3_4 l4_0 l4_1 l4_2 l4_3 l4_4 h).trans z)
theorem R107_1 (N : Nat) (call : CT) (l2_0 l2_1 : AV) (l3_0 l3_1 : AV) (l3_2 l3_3 : AV) (l3_4 l4_0 : AV) (l4_1 l4_2 : AV) (l4_3 l4_4 : AV) (h : H) : E107_1 N call (T107_1 l2_0 l2_1 l3_0 l3_1 l3_2 l3_3 l3_4 l4_0 l4_1 l4_2 l4_3 l4_4) (L107_1 l2_0 l2_1 l3_0 l3_1 l3_2 l3_3 l3_4 l4_0 l4_1 l4_2 l4_3 l4_4) h = S107_1 call (fun (a_7 : OA) (n_7 : Nat) (c_7 : Option Nat) (a_53 : OA) (n_53 : Nat) (c_53 : Option Nat) (x_54 x_55 : Int) (l2_0 l2_1 : AV) (l3_0 l3_1 : AV) (l3_2 l3_3 : AV) (l3_4 l4_0 : AV) (l4_1 l4_2 : AV) (l4_3 l4_4 : AV) h => (E107_4 N call) (T107_4 a_7 n_7 c_7 a_53 n_53 c_53 x_54 x_55 l2_0 l2_1 l3_0 l3_1 l3_2 l3_3 l3_4 l4_0 l4_1 l4_2 l4_3 l4_4) (L107_4 a_7 n_7 c_7 a_53 n_53 c_53 x_54 x_55 l2_0 l2_1 l3_0 l3_1 l3_2 l3_3 l3_4 l4_0 l4_1 l4_2 l4_3 l4_4) h) l2_0 l2_1 l3_0 l3_1 l3_2 l3_3 l3_4 l4_0 l4_1 l4_2 l4_3 l4_4 h := by kernel_rfl
theorem Z107_1 (N : Nat) (call : CT) (l2_0 l2_1 : AV) (l3_0 l3_1 : AV) (l3_2 l3_3 : AV) (l3_4 l4_0 : AV) (l4_1 l4_2 : AV) (l4_3 l4_4 : AV) (h : H) : E107_1 N call (T107_1 l2_0 l2_1 l3_0 l3_1 l3_2 l3_3 l3_4 l4_0 l4_1 l4_2 l4_3 l4_4) (L107_1 l2_0 l2_1 l3_0 l3_1 l3_2 l3_3 l3_4 l4_0 l4_1 l4_2 l4_3 l4_4) h = C107_1 N call l2_0 l2_1 l3_0 l3_1 l3_2 l3_3 l3_4 l4_0 l4_1 l4_2 l4_3 l4_4 h := by
  have e4 : (fun (a_7 : OA) (n_7 : Nat) (c_7 : Option Nat) (a_53 : OA) (n_53 : Nat) (c_53 : Option Nat) (x_54 x_55 : Int) (l2_0 l2_1 : AV) (l3_0 l3_1 : AV) (l3_2 l3_3 : AV) (l3_4 l4_0 : AV) (l4_1 l4_2 : AV) (l4_3 l4_4 : AV) h => (E107_4 N call) (T107_4 a_7 n_7 c_7 a_53 n_53 c_53 x_54 x_55 l2_0 l2_1 l3_0 l3_1 l3_2 l3_3 l3_4 l4_0 l4_1 l4_2 l4_3 l4_4) (L107_4 a_7 n_7 c_7 a_53 n_53 c_53 x_54 x_55 l2_0 l2_1 l3_0 l3_1 l3_2 l3_3 l3_4 l4_0 l4_1 l4_2 l4_3 l4_4) h) = (C107_4 N call) := by
    funext a_7 n_7 c_7 a_53 n_53 c_53 x_54 x_55 l2_0 l2_1 l3_0 l3_1 l3_2 l3_3 l3_4 l4_0 l4_1 l4_2 l4_3 l4_4 h
    exact Z107_4 N call a_7 n_7 c_7 a_53 n_53 c_53 x_54 x_55 l2_0 l2_1 l3_0 l3_1 l3_2 l3_3 l3_4 l4_0 l4_1 l4_2 l4_3 l4_4 h
  have r := R107_1 N call l2_0 l2_1 l3_0 l3_1 l3_2 l3_3 l3_4 l4_0 l4_1 l4_2 l4_3 l4_4 h
  rw [e4] at r
  have z : S107_1 call (C107_4 N call) l2_0 l2_1 l3_0 l3_1 l3_2 l3_3 l3_4 l4_0 l4_1 l4_2 l4_3 l4_4 h = C107_1 N call l2_0 l2_1 l3_0 l3_1 l3_2 l3_3 l3_4 l4_0 l4_1 l4_2 l4_3 l4_4 h := by kernel_rfl
  exact r.trans z
theorem R107_3 (N : Nat) (call : CT) (x_30 : Bool) (l2_0 l2_1 : AV) (l3_0 l3_1 : AV) (l3_2 l3_3 : AV) (l3_4 l4_0 : AV) (l4_1 l4_2 : AV) (l4_3 l4_4 : AV) (l5_0 l5_1 : AV) (l5_2 l5_3 l5_4 : AV) (h : H) : E107_3 N call (T107_3 x_30 l2_0 l2_1 l3_0 l3_1 l3_2 l3_3 l3_4 l4_0 l4_1 l4_2 l4_3 l4_4 l5_0 l5_1 l5_2 l5_3 l5_4) (L107_3 x_30 l2_0 l2_1 l3_0 l3_1 l3_2 l3_3 l3_4 l4_0 l4_1 l4_2 l4_3 l4_4 l5_0 l5_1 l5_2 l5_3 l5_4) h = S107_3 call (fun (l2_0 l2_1 : AV) (l3_0 l3_1 : AV) (l3_2 l3_3 : AV) (l3_4 l4_0 : AV) (l4_1 l4_2 : AV) (l4_3 l4_4 : AV) h => (E107_1 N call) (T107_1 l2_0 l2_1 l3_0 l3_1 l3_2 l3_3 l3_4 l4_0 l4_1 l4_2 l4_3 l4_4) (L107_1 l2_0 l2_1 l3_0 l3_1 l3_2 l3_3 l3_4 l4_0 l4_1 l4_2 l4_3 l4_4) h) x_30 l2_0 l2_1 l3_0 l3_1 l3_2 l3_3 l3_4 l4_0 l4_1 l4_2 l4_3 l4_4 l5_0 l5_1 l5_2 l5_3 l5_4 h := by kernel_rfl
theorem Z107_3 (N : Nat) (call : CT) (x_30 : Bool) (l2_0 l2_1 : AV) (l3_0 l3_1 : AV) (l3_2 l3_3 : AV) (l3_4 l4_0 : AV) (l4_1 l4_2 : AV) (l4_3 l4_4 : AV) (l5_0 l5_1 : AV) (l5_2 l5_3 l5_4 : AV) (h : H) : E107_3 N call (T107_3 x_30 l2_0 l2_1 l3_0 l3_1 l3_2 l3_3 l3_4 l4_0 l4_1 l4_2 l4_3 l4_4 l5_0 l5_1 l5_2 l5_3 l5_4) (L107_3 x_30 l2_0 l2_1 l3_0 l3_1 l3_2 l3_3 l3_4 l4_0 l4_1 l4_2 l4_3 l4_4 l5_0 l5_1 l5_2 l5_3 l5_4) h = C107_3 N call x_30 l2_0 l2_1 l3_0 l3_1 l3_2 l3_3 l3_4 l4_0 l4_1 l4_2 l4_3 l4_4 l5_0 l5_1 l5_2 l5_3 l5_4 h := by
  have e1 : (fun (l2_0 l2_1 : AV) (l3_0 l3_1 : AV) (l3_2 l3_3 : AV) (l3_4 l4_0 : AV) (l4_1 l4_2 : AV) (l4_3 l4_4 : AV) h => (E107_1 N call) (T107_1 l2_0 l2_1 l3_0 l3_1 l3_2 l3_3 l3_4 l4_0 l4_1 l4_2 l4_3 l4_4) (L107_1 l2_0 l2_1 l3_0 l3_1 l3_2 l3_3 l3_4 l4_0 l4_1 l4_2 l4_3 l4_4) h) = (C107_1 N call) := by
    funext l2_0 l2_1 l3_0 l3_1 l3_2 l3_3 l3_4 l4_0 l4_1 l4_2 l4_3 l4_4 h
    exact Z107_1 N call l2_0 l2_1 l3_0 l3_1 l3_2 l3_3 l3_4 l4_0 l4_1 l4_2 l4_3 l4_4 h
  have r := R107_3 N call x_30 l2_0 l2_1 l3_0 l3_1 l3_2 l3_3 l3_4 l4_0 l4_1 l4_2 l4_3 l4_4 l5_0 l5_1 l5_2 l5_3 l5_4 h
  rw [e1] at r
  have z : S107_3 call (C107_1 N call) x_30 l2_0 l2_1 l3_0 l3_1 l3_2 l3_3 l3_4 l4_0 l4_1 l4_2 l4_3 l4_4 l5_0 l5_1 l5_2 l5_3 l5_4 h = C107_3 N call x_30 l2_0 l2_1 l3_0 l3_1 l3_2 l3_3 l3_4 l4_0 l4_1 l4_2 l4_3 l4_4 l5_0 l5_1 l5_2 l5_3 l5_4 h := by kernel_rfl
  exact r.trans z
theorem R107_2 (N : Nat) (call : CT) (x_6 x_17 : Bool) (l2_0 l2_1 : AV) (l3_0 l3_1 : AV) (l3_2 l3_3 : AV) (l3_4 l4_0 : AV) (l4_1 l4_2 : AV) (l4_3 l4_4 : AV) (l5_0 l5_1 : AV) (l5_2 l5_3 l5_4 : AV) (h : H) : E107_2 N call (T107_2 x_6 x_17 l2_0 l2_1 l3_0 l3_1 l3_2 l3_3 l3_4 l4_0 l4_1 l4_2 l4_3 l4_4 l5_0 l5_1 l5_2 l5_3 l5_4) (L107_2 x_6 x_17 l2_0 l2_1 l3_0 l3_1 l3_2 l3_3 l3_4 l4_0 l4_1 l4_2 l4_3 l4_4 l5_0 l5_1 l5_2 l5_3 l5_4) h = S107_2 call (fun (x_30 : Bool) (l2_0 l2_1 : AV) (l3_0 l3_1 : AV) (l3_2 l3_3 : AV) (l3_4 l4_0 : AV) (l4_1 l4_2 : AV) (l4_3 l4_4 : AV) (l5_0 l5_1 : AV) (l5_2 l5_3 l5_4 : AV) h => (E107_3 N call) (T107_3 x_30 l2_0 l2_1 l3_0 l3_1 l3_2 l3_3 l3_4 l4_0 l4_1 l4_2 l4_3 l4_4 l5_0 l5_1 l5_2 l5_3 l5_4) (L107_3 x_30 l2_0 l2_1 l3_0 l3_1 l3_2 l3_3 l3_4 l4_0 l4_1 l4_2 l4_3 l4_4 l5_0 l5_1 l5_2 l5_3 l5_4) h) x_6 x_17 l2_0 l2_1 l3_0 l3_1 l3_2 l3_3 l3_4 l4_0 l4_1 l4_2 l4_3 l4_4 l5_0 l5_1 l5_2 l5_3 l5_4 h := by kernel_rfl
theorem Z107_2 (N : Nat) (call : CT) (x_6 x_17 : Bool) (l2_0 l2_1 : AV) (l3_0 l3_1 : AV) (l3_2 l3_3 : AV) (l3_4 l4_0 : AV) (l4_1 l4_2 : AV) (l4_3 l4_4 : AV) (l5_0 l5_1 : AV) (l5_2 l5_3 l5_4 : AV) (h : H) : E107_2 N call (T107_2 x_6 x_17 l2_0 l2_1 l3_0 l3_1 l3_2 l3_3 l3_4 l4_0 l4_1 l4_2 l4_3 l4_4 l5_0 l5_1 l5_2 l5_3 l5_4) (L107_2 x_6 x_17 l2_0 l2_1 l3_0 l3_1 l3_2 l3_3 l3_4 l4_0 l4_1 l4_2 l4_3 l4_4 l5_0 l5_1 l5_2 l5_3 l5_4) h = C107_2 N call x_6 x_17 l2_0 l2_1 l3_0 l3_1 l3_2 l3_3 l3_4 l4_0 l4_1 l4_2 l4_3 l4_4 l5_0 l5_1 l5_2 l5_3 l5_4 h := by
  have e3 : (fun (x_30 : Bool) (l2_0 l2_1 : AV) (l3_0 l3_1 : AV) (l3_2 l3_3 : AV) (l3_4 l4_0 : AV) (l4_1 l4_2 : AV) (l4_3 l4_4 : AV) (l5_0 l5_1 : AV) (l5_2 l5_3 l5_4 : AV) h => (E107_3 N call) (T107_3 x_30 l2_0 l2_1 l3_0 l3_1 l3_2 l3_3 l3_4 l4_0 l4_1 l4_2 l4_3 l4_4 l5_0 l5_1 l5_2 l5_3 l5_4) (L107_3 x_30 l2_0 l2_1 l3_0 l3_1 l3_2 l3_3 l3_4 l4_0 l4_1 l4_2 l4_3 l4_4 l5_0 l5_1 l5_2 l5_3 l5_4) h) = (C107_3 N call) := by
    funext x_30 l2_0 l2_1 l3_0 l3_1 l3_2 l3_3 l3_4 l4_0 l4_1 l4_2 l4_3 l4_4 l5_0 l5_1 l5_2 l5_3 l5_4 h
    exact Z107_3 N call x_30 l2_0 l2_1 l3_0 l3_1 l3_2 l3_3 l3_4 l4_0 l4_1 l4_2 l4_3 l4_4 l5_0 l5_1 l5_2 l5_3 l5_4 h
  have r := R107_2 N call x_6 x_17 l2_0 l2_1 l3_0 l3_1 l3_2 l3_3 l3_4 l4_0 l4_1 l4_2 l4_3 l4_4 l5_0 l5_1 l5_2 l5_3 l5_4 h
  rw [e3] at r
  have z : S107_2 call (C107_3 N call) x_6 x_17 l2_0 l2_1 l3_0 l3_1 l3_2 l3_3 l3_4 l4_0 l4_1 l4_2 l4_3 l4_4 l5_0 l5_1 l5_2 l5_3 l5_4 h = C107_2 N call x_6 x_17 l2_0 l2_1 l3_0 l3_1 l3_2 l3_3 l3_4 l4_0 l4_1 l4_2 l4_3 l4_4 l5_0 l5_1 l5_2 l5_3 l5_4 h := by kernel_rfl
  exact r.trans z
theorem R107_0 (N : Nat) (call : CT) (y0 y1 : AV) (h : H) : body Tryz.prog N call Tryz.f107 A107.an [y0, y1] h = S107_0 call (fun (x_6 x_17 : Bool) (l2_0 l2_1 : AV) (l3_0 l3_1 : AV) (l3_2 l3_3 : AV) (l3_4 l4_0 : AV) (l4_1 l4_2 : AV) (l4_3 l4_4 : AV) (l5_0 l5_1 : AV) (l5_2 l5_3 l5_4 : AV) h => (E107_2 N call) (T107_2 x_6 x_17 l2_0 l2_1 l3_0 l3_1 l3_2 l3_3 l3_4 l4_0 l4_1 l4_2 l4_3 l4_4 l5_0 l5_1 l5_2 l5_3 l5_4) (L107_2 x_6 x_17 l2_0 l2_1 l3_0 l3_1 l3_2 l3_3 l3_4 l4_0 l4_1 l4_2 l4_3 l4_4 l5_0 l5_1 l5_2 l5_3 l5_4) h) y0 y1 h := by kernel_rfl
theorem Z107 (N : Nat) (call : CT) (y0 y1 : AV) (h : H) : body Tryz.prog N call Tryz.f107 A107.an [y0, y1] h = S107 N call y0 y1 h := by
  have e2 : (fun (x_6 x_17 : Bool) (l2_0 l2_1 : AV) (l3_0 l3_1 : AV) (l3_2 l3_3 : AV) (l3_4 l4_0 : AV) (l4_1 l4_2 : AV) (l4_3 l4_4 : AV) (l5_0 l5_1 : AV) (l5_2 l5_3 l5_4 : AV) h => (E107_2 N call) (T107_2 x_6 x_17 l2_0 l2_1 l3_0 l3_1 l3_2 l3_3 l3_4 l4_0 l4_1 l4_2 l4_3 l4_4 l5_0 l5_1 l5_2 l5_3 l5_4) (L107_2 x_6 x_17 l2_0 l2_1 l3_0 l3_1 l3_2 l3_3 l3_4 l4_0 l4_1 l4_2 l4_3 l4_4 l5_0 l5_1 l5_2 l5_3 l5_4) h) = (C107_2 N call) := by
    funext x_6 x_17 l2_0 l2_1 l3_0 l3_1 l3_2 l3_3 l3_4 l4_0 l4_1 l4_2 l4_3 l4_4 l5_0 l5_1 l5_2 l5_3 l5_4 h
    exact Z107_2 N call x_6 x_17 l2_0 l2_1 l3_0 l3_1 l3_2 l3_3 l3_4 l4_0 l4_1 l4_2 l4_3 l4_4 l5_0 l5_1 l5_2 l5_3 l5_4 h
  have r := R107_0 N call y0 y1 h
  rw [e2] at r
  have z : S107_0 call (C107_2 N call) y0 y1 h = S107 N call y0 y1 h := by kernel_rfl
  exact r.trans z
theorem V107 (N : Nat) (call : CT) (vs : List AV) (h : H) : body Tryz.prog N call Tryz.f107 A107.an vs h = row2 (fun y0 y1 => S107 N call y0 y1 h) vs := wrap2 (by kernel_rfl) (fun y0 y1 => Z107 N call y0 y1 h) vs
/- sibyl/sibylref1.Class -/
def A109.a0 : Ann := .items [.op 0]
def A109.a1 : Ann := .items [.op 0, .op 1, .op 2, .split 8, .op 3, .op 4, .op 5, .op 6, .split 12, .op 7, .op 8, .op 9, .split 15, .op 10, .op 11, .op 12, .op 13, .op 14, .split 20, .op 15, .op 16, .op 17, .op 18, .split 24, .op 19, .op 20, .op 21, .split 27, .op 22, .op 23, .op 24, .op 25, .op 26]
def A109.a2 : Ann := .items [.op 0]
def A109.a3 : Ann := .leaf
def A109.a4 : Ann := .two A109.a2 A109.a3
def A109.a5 : Ann := .items [.op 0, .op 1, .op 2, .split 35, .op 3, .op 4, .op 5, .op 6]
def A109.a6 : Ann := .items [.op 0]
def A109.a7 : Ann := .leaf
def A109.a8 : Ann := .two A109.a6 A109.a7
def A109.a9 : Ann := .items [.op 0, .op 1, .op 2, .split 42, .op 3, .op 4, .op 5, .op 6, .split 46, .op 7, .op 8, .op 9, .op 10, .split 50, .op 11, .op 12, .op 13, .op 14]
def A109.a10 : Ann := .items [.op 0]
def A109.a11 : Ann := .leaf
def A109.a12 : Ann := .two A109.a10 A109.a11
def A109.a13 : Ann := .leaf
def A109.a14 : Ann := .two A109.a12 A109.a13
def A109.a15 : Ann := .join [0, 39] [] A109.a9 A109.a14
def A109.a16 : Ann := .two A109.a8 A109.a15
def A109.a17 : Ann := .join [0, 32] [] A109.a5 A109.a16
def A109.a18 : Ann := .two A109.a4 A109.a17
def A109.a19 : Ann := .join [0, 5] [] A109.a1 A109.a18
def A109.a20 : Ann := .one A109.a19
def A109.a21 : Ann := .items [.op 0]
def A109.a22 : Ann := .items [.op 0]
def A109.a23 : Ann := .items [.op 0, .op 1, .op 2, .op 3]
def A109.a24 : Ann := .leaf
def A109.a25 : Ann := .leaf
def A109.a26 : Ann := .two A109.a24 A109.a25
def A109.a27 : Ann := .two A109.a23 A109.a26
def A109.a28 : Ann := .items [.op 0, .op 1, .op 2, .op 3, .op 4, .op 5]
def A109.a29 : Ann := .items [.op 0]
def A109.a30 : Ann := .leaf
def A109.a31 : Ann := .two A109.a29 A109.a30
def A109.a32 : Ann := .leaf
def A109.a33 : Ann := .two A109.a31 A109.a32
def A109.a34 : Ann := .two A109.a28 A109.a33
def A109.a35 : Ann := .one A109.a34
def A109.a36 : Ann := .items [.op 0, .op 1, .op 2]
def A109.a37 : Ann := .two A109.a35 A109.a36
def A109.a38 : Ann := .two A109.a27 A109.a37
def A109.a39 : Ann := .meet [0, 3, 4] [] A109.a38
def A109.a40 : Ann := .one A109.a39
def A109.a41 : Ann := .two A109.a22 A109.a40
def A109.a42 : Ann := .items [.op 0]
def A109.a43 : Ann := .leaf
def A109.a44 : Ann := .two A109.a42 A109.a43
def A109.a45 : Ann := .two A109.a41 A109.a44
def A109.a46 : Ann := .two A109.a21 A109.a45
def A109.a47 : Ann := .join [0] [] A109.a20 A109.a46
def A109.an : Ann := .two A109.a0 A109.a47
def E109_1 (N : Nat) (call : CT) : K3 :=
  (codeK Tryz.prog N call (c2 (c2 (bodyOf Tryz.f109))) A109.a46 (resK Tryz.prog Tryz.f109.results.toList) (fun _ _ _ _ => none) (resK Tryz.prog Tryz.f109.results.toList))
def E109_2 (N : Nat) (call : CT) : K3 :=
  (codeK Tryz.prog N call (c2 (c1 (c1 (c2 (bodyOf Tryz.f109))))) A109.a18 (fun T L h => (E109_1 N call) (keepT [0] T) (keepL [] L) h) (fun i T L h => match Nat.beq i 0 with | true => (fun T L h => (E109_1 N call) (keepT [0] T) (keepL [] L) h) T L h | false => (fun _ _ _ _ => none) i T L h) (resK Tryz.prog Tryz.f109.results.toList))
def E109_3 (N : Nat) (call : CT) : K3 :=
  (codeK Tryz.prog N call (c2 (c2 (c2 (c1 (c1 (c2 (bodyOf Tryz.f109))))))) A109.a16 (fun T L h => (E109_1 N call) (keepT [0] T) (keepL [] L) h) (fun i T L h => match Nat.beq i 0 with | true => (fun T L h => (E109_1 N call) (keepT [0] T) (keepL [] L) h) T L h | false => (fun _ _ _ _ => none) i T L h) (resK Tryz.prog Tryz.f109.results.toList))
def E109_4 (N : Nat) (call : CT) : K3 :=
  (codeK Tryz.prog N call (c2 (c2 (c2 (c2 (c2 (c1 (c1 (c2 (bodyOf Tryz.f109))))))))) A109.a14 (fun T L h => (E109_1 N call) (keepT [0] T) (keepL [] L) h) (fun i T L h => match Nat.beq i 0 with | true => (fun T L h => (E109_1 N call) (keepT [0] T) (keepL [] L) h) T L h | false => (fun _ _ _ _ => none) i T L h) (resK Tryz.prog Tryz.f109.results.toList))
def F109_5 (N : Nat) (call : CT) (self : K3) : K3 :=
  (codeK Tryz.prog N call (c1 (c1 (c2 (c1 (c2 (c2 (c2 (bodyOf Tryz.f109)))))))) A109.a38 (fun T L h => self (keepT [0, 3, 4] T) (keepL [] L) h) (fun i T L h => match Nat.beq i 1 with | true => (codeK Tryz.prog N call (c2 (c2 (c2 (c2 (bodyOf Tryz.f109))))) A109.a44 (resK Tryz.prog Tryz.f109.results.toList) (fun _ _ _ _ => none) (resK Tryz.prog Tryz.f109.results.toList)) T L h | false => (fun _ _ _ _ => none) i T L h) (resK Tryz.prog Tryz.f109.results.toList))
def E109_5 (N : Nat) (call : CT) : K3 := iter (F109_5 N call) N
def S109_1 (call : CT) (k5 : Int → List Nat → Int → H → R) (x_0 : Int) (h : H) : R :=
  k5 x_0 [61, 126, 60, 62, 38, 124, 40, 41, 123, 125, 44, 59, 58, 43, 92, 35, 39] (Int.ofNat 0) h
def S109_2 (call : CT) (k3 : Int → Bool → H → R) (x_0 : Int) (x_5 : Bool) (h : H) : R :=
  ifB x_5 (some ((.int .i64 (Int.ofNat 1)), h)) (ifB (leI (Int.ofNat 48) x_0) (k3 x_0 (leI x_0 (Int.ofNat 57)) h) (k3 x_0 false h))
def S109_3 (call : CT) (k4 : Int → Bool → H → R) (x_0 : Int) (x_32 : Bool) (h : H) : R :=
  ifB x_32 (some ((.int .i64 (Int.ofNat 2)), h)) (ifB (eqI x_0 (Int.ofNat 32)) (k4 x_0 true h) (ifB (eqI x_0 (Int.ofNat 9)) (k4 x_0 true h) (ifB (eqI x_0 (Int.ofNat 10)) (k4 x_0 true h) (k4 x_0 (eqI x_0 (Int.ofNat 13)) h))))
def S109_4 (call : CT) (k1 : Int → H → R) (x_0 : Int) (x_39 : Bool) (h : H) : R :=
  ifB x_39 (some ((.int .i64 (Int.ofNat 3)), h)) (k1 x_0 h)
def S109_5 (call : CT) (k5 : Int → List Nat → Int → H → R) (x_0 : Int) (x_3 : List Nat) (x_4 : Int) (h : H) : R :=
  ifB (ltI x_4 (Int.ofNat (x_3).length)) (idxS x_3 x_4 (fun b1 => ifB (eqI x_0 (wrapF .i32 (Int.ofNat b1))) (some ((.int .i64 (Int.ofNat 4)), h)) (k5 x_0 x_3 (wrapF .i64 (Int.add x_4 (Int.ofNat 1))) h))) (some ((.int .i64 (Int.ofNat 0)), h))
def S109_0 (call : CT) (k2 : Int → Bool → H → R) (y0 : AV) (h : H) : R :=
  onInt .i32 y0 (fun i1 => ifB (leI (Int.ofNat 97) i1) (ifB (leI i1 (Int.ofNat 122)) (k2 i1 true h) (ifB (leI (Int.ofNat 65) i1) (ifB (leI i1 (Int.ofNat 90)) (k2 i1 true h) (ifB (eqI i1 (Int.ofNat 95)) (k2 i1 true h) (ifB (leI (Int.ofNat 945) i1) (k2 i1 (leI i1 (Int.ofNat 969)) h) (k2 i1 false h)))) (ifB (eqI i1 (Int.ofNat 95)) (k2 i1 true h) (ifB (leI (Int.ofNat 945) i1) (k2 i1 (leI i1 (Int.ofNat 969)) h) (k2 i1 false h))))) (ifB (leI (Int.ofNat 65) i1) (ifB (leI i1 (Int.ofNat 90)) (k2 i1 true h) (ifB (eqI i1 (Int.ofNat 95)) (k2 i1 true h) (ifB (leI (Int.ofNat 945) i1) (k2 i1 (leI i1 (Int.ofNat 969)) h) (k2 i1 false h)))) (ifB (eqI i1 (Int.ofNat 95)) (k2 i1 true h) (ifB (leI (Int.ofNat 945) i1) (k2 i1 (leI i1 (Int.ofNat 969)) h) (k2 i1 false h)))))
def B109_5 (N : Nat) (call : CT) (ih : Int → List Nat → Int → H → R) : Int → List Nat → Int → H → R := S109_5 call ih
def I109_5 (N : Nat) (call : CT) (n : Nat) : Int → List Nat → Int → H → R := Nat.rec (motive := fun _ => Int → List Nat → Int → H → R) (fun _ _ _ _ => none) (fun _ ih => B109_5 N call ih) n
def C109_5 (N : Nat) (call : CT) : Int → List Nat → Int → H → R := I109_5 N call N
def C109_1 (N : Nat) (call : CT) : Int → H → R := S109_1 call (C109_5 N call)
def C109_4 (N : Nat) (call : CT) : Int → Bool → H → R := S109_4 call (C109_1 N call)
def C109_3 (N : Nat) (call : CT) : Int → Bool → H → R := S109_3 call (C109_4 N call)
def C109_2 (N : Nat) (call : CT) : Int → Bool → H → R := S109_2 call (C109_3 N call)
def S109 (N : Nat) (call : CT) (y0 : AV) (h : H) : R := S109_0 call (C109_2 N call) y0 h
def T109_1 (x_0 : Int) : LF := [(some (.v (.int .i32 x_0))), oo, oo, oo, oo, oo, oo, oo, oo, oo, oo, oo, oo, oo, oo, oo, oo, oo, oo, oo, oo, oo, oo, oo, oo, oo, oo, oo, oo, oo, oo, oo, oo, oo, oo, oo, oo, oo, oo, oo, oo, oo, oo, oo, oo, oo, oo, oo, oo, oo, oo, oo, oo, oo, oo, oo, oo, oo, oo, oo, oo, oo, oo, oo, oo, oo]
def L109_1 (x_0 : Int) : LL := [oo, oo, oo, oo, oo, oo, oo, oo, oo, oo, oo, oo, oo, oo, oo, oo, oo, oo, oo, oo, oo, oo, oo, oo, oo, oo, oo, oo, oo, oo, oo, oo, oo, oo, oo, oo, oo, oo, oo, oo, oo, oo, oo, oo, oo, oo, oo, oo, oo, oo, oo, oo, oo, oo, oo, oo, oo, oo, oo, oo, oo, oo, oo, oo, oo, oo]
def T109_2 (x_0 : Int) (x_5 : Bool) : LF := [(some (.v (.int .i32 x_0))), oo, oo, oo, oo, (some (.v (.bool x_5))), oo, oo, oo, oo, oo, oo, oo, oo, oo, oo, oo, oo, oo, oo, oo, oo, oo, oo, oo, oo, oo, oo, oo, oo, oo, oo, oo, oo, oo, oo, oo, oo, oo, oo, oo, oo, oo, oo, oo, oo, oo, oo, oo, oo, oo, oo, oo, oo, oo, oo, oo, oo, oo, oo, oo, oo, oo, oo, oo, oo]
def L109_2 (x_0 : Int) (x_5 : Bool) : LL := [oo, oo, oo, oo, oo, oo, oo, oo, oo, oo, oo, oo, oo, oo, oo, oo, oo, oo, oo, oo, oo, oo, oo, oo, oo, oo, oo, oo, oo, oo, oo, oo, oo, oo, oo, oo, oo, oo, oo, oo, oo, oo, oo, oo, oo, oo, oo, oo, oo, oo, oo, oo, oo, oo, oo, oo, oo, oo, oo, oo, oo, oo, oo, oo, oo, oo]
def T109_3 (x_0 : Int) (x_32 : Bool) : LF := [(some (.v (.int .i32 x_0))), oo, oo, oo, oo, oo, oo, oo, oo, oo, oo, oo, oo, oo, oo, oo, oo, oo, oo, oo, oo, oo, oo, oo, oo, oo, oo, oo, oo, oo, oo, oo, (some (.v (.bool x_32))), oo, oo, oo, oo, oo, oo, oo, oo, oo, oo, oo, oo, oo, oo, oo, oo, oo, oo, oo, oo, oo, oo, oo, oo, oo, oo, oo, oo, oo, oo, oo, oo, oo]
def L109_3 (x_0 : Int) (x_32 : Bool) : LL := [oo, oo, oo, oo, oo, oo, oo, oo, oo, oo, oo, oo, oo, oo, oo, oo, oo, oo, oo, oo, oo, oo, oo, oo, oo, oo, oo, oo, oo, oo, oo, oo, oo, oo, oo, oo, oo, oo, oo, oo, oo, oo, oo, oo, oo, oo, oo, oo, oo, oo, oo, oo, oo, oo, oo, oo, oo, oo, oo, oo, oo, oo, oo, oo, oo, oo]
def T109_4 (x_0 : Int) (x_39 : Bool) : LF := [(some (.v (.int .i32 x_0))), oo, oo, oo, oo, oo, oo, oo, oo, oo, oo, oo, oo, oo, oo, oo, oo, oo, oo, oo, oo, oo, oo, oo, oo, oo, oo, oo, oo, oo, oo, oo, oo, oo, oo, oo, oo, oo, oo, (some (.v (.bool x_39))), oo, oo, oo, oo, oo, oo, oo, oo, oo, oo, oo, oo, oo, oo, oo, oo, oo, oo, oo, oo, oo, oo, oo, oo, oo, oo]
def L109_4 (x_0 : Int) (x_39 : Bool) : LL := [oo, oo, oo, oo, oo, oo, oo, oo, oo, oo, oo, oo, oo, oo, oo, oo, oo, oo, oo, oo, oo, oo, oo, oo, oo, oo, oo, oo, oo, oo, oo, oo, oo, oo, oo, oo, oo, oo, oo, oo, oo, oo, oo, oo, oo, oo, oo, oo, oo, oo, oo, oo, oo, oo, oo, oo, oo, oo, oo, oo, oo, oo, oo, oo, oo, oo]
def T109_5 (x_0 : Int) (x_3 : List Nat) (x_4 : Int) : LF := [(some (.v (.int .i32 x_0))), none, none, (some (.v (.str x_3))), (some (.v (.int .i64 x_4))), oo, oo, oo, oo, oo, oo, oo, oo, oo, oo, oo, oo, oo, oo, oo, oo, oo, oo, oo, oo, oo, oo, oo, oo, oo, oo, oo, oo, oo, oo, oo, oo, oo, oo, oo, oo, oo, oo, oo, oo, oo, oo, oo, oo, oo, oo, oo, oo, oo, oo, oo, oo, oo, oo, oo, oo, oo, oo, oo, oo, oo]
def L109_5 (x_0 : Int) (x_3 : List Nat) (x_4 : Int) : LL := [oo, oo, oo, oo, oo, oo, oo, oo, oo, oo, oo, oo, oo, oo, oo, oo, oo, oo, oo, oo, oo, oo, oo, oo, oo, oo, oo, oo, oo, oo, oo, oo, oo, oo, oo, oo, oo, oo, oo, oo, oo, oo, oo, oo, oo, oo, oo, oo, oo, oo, oo, oo, oo, oo, oo, oo, oo, oo, oo, oo, oo, oo, oo, oo, oo, oo]
theorem R109_5 (N : Nat) (call : CT) (self : K3) (x_0 : Int) (x_3 : List Nat) (x_4 : Int) (h : H) : F109_5 N call self (T109_5 x_0 x_3 x_4) (L109_5 x_0 x_3 x_4) h = S109_5 call (fun (x_0 : Int) (x_3 : List Nat) (x_4 : Int) h => self (T109_5 x_0 x_3 x_4) (L109_5 x_0 x_3 x_4) h) x_0 x_3 x_4 h := by kernel_rfl
theorem Q109_5 (N : Nat) (call : CT) (n : Nat) : ∀ (x_0 : Int) (x_3 : List Nat) (x_4 : Int) (h : H), (iter (F109_5 N call) n) (T109_5 x_0 x_3 x_4) (L109_5 x_0 x_3 x_4) h = I109_5 N call n x_0 x_3 x_4 h := by
  induction n with
  | zero => intros; exact (iter_zero _ _ _ _).trans (by kernel_rfl)
  | succ n ih =>
    intro x_0 x_3 x_4 h
    have e0 : (fun (x_0 : Int) (x_3 : List Nat) (x_4 : Int) h => (iter (F109_5 N call) n) (T109_5 x_0 x_3 x_4) (L109_5 x_0 x_3 x_4) h) = (I109_5 N call n) := by funext x_0 x_3 x_4 h; exact ih x_0 x_3 x_4 h
    have r := R109_5 N call (iter (F109_5 N call) n) x_0 x_3 x_4 h
    rw [e0] at r
    have g := iter_succ (F109_5 N call) n (T109_5 x_0 x_3 x_4) (L109_5 x_0 x_3 x_4) h
    have z : S109_5 call (I109_5 N call n) x_0 x_3 x_4 h = I109_5 N call (n + 1) x_0 x_3 x_4 h := by kernel_rfl
    exact g.trans (r.trans z)
theorem Z109_5 (N : Nat) (call : CT) (x_0 : Int) (x_3 : List Nat) (x_4 : Int) (h : H) : (E109_5 N call) (T109_5 x_0 x_3 x_4) (L109_5 x_0 x_3 x_4) h = C109_5 N call x_0 x_3 x_4 h := by
  have g : (E109_5 N call) (T109_5 x_0 x_3 x_4) (L109_5 x_0 x_3 x_4) h = iter (F109_5 N call) N (T109_5 x_0 x_3 x_4) (L109_5 x_0 x_3 x_4) h := by kernel_rfl
  have z : I109_5 N call N x_0 x_3 x_4 h = C109_5 N call x_0 x_3 x_4 h := by kernel_rfl
  exact g.trans ((Q109_5 N call N x_0 x_3 x_4 h).trans z)
theorem R109_1 (N : Nat) (call : CT) (x_0 : Int) (h : H) : E109_1 N call (T109_1 x_0) (L109_1 x_0) h = S109_1 call (fun (x_0 : Int) (x_3 : List Nat) (x_4 : Int) h => (E109_5 N call) (T109_5 x_0 x_3 x_4) (L109_5 x_0 x_3 x_4) h) x_0 h := by kernel_rfl
theorem Z109_1 (N : Nat) (call : CT) (x_0 : Int) (h : H) : E109_1 N call (T109_1 x_0) (L109_1 x_0) h = C109_1 N call x_0 h := by
  have e5 : (fun (x_0 : Int) (x_3 : List Nat) (x_4 : Int) h => (E109_5 N call) (T109_5 x_0 x_3 x_4) (L109_5 x_0 x_3 x_4) h) = (C109_5 N call) := by
    funext x_0 x_3 x_4 h
    exact Z109_5 N call x_0 x_3 x_4 h
  have r := R109_1 N call x_0 h
  rw [e5] at r
  have z : S109_1 call (C109_5 N call) x_0 h = C109_1 N call x_0 h := by kernel_rfl
  exact r.trans z
theorem R109_4 (N : Nat) (call : CT) (x_0 : Int) (x_39 : Bool) (h : H) : E109_4 N call (T109_4 x_0 x_39) (L109_4 x_0 x_39) h = S109_4 call (fun (x_0 : Int) h => (E109_1 N call) (T109_1 x_0) (L109_1 x_0) h) x_0 x_39 h := by kernel_rfl
theorem Z109_4 (N : Nat) (call : CT) (x_0 : Int) (x_39 : Bool) (h : H) : E109_4 N call (T109_4 x_0 x_39) (L109_4 x_0 x_39) h = C109_4 N call x_0 x_39 h := by
  have e1 : (fun (x_0 : Int) h => (E109_1 N call) (T109_1 x_0) (L109_1 x_0) h) = (C109_1 N call) := by
    funext x_0 h
    exact Z109_1 N call x_0 h
  have r := R109_4 N call x_0 x_39 h
  rw [e1] at r
  have z : S109_4 call (C109_1 N call) x_0 x_39 h = C109_4 N call x_0 x_39 h := by kernel_rfl
  exact r.trans z
theorem R109_3 (N : Nat) (call : CT) (x_0 : Int) (x_32 : Bool) (h : H) : E109_3 N call (T109_3 x_0 x_32) (L109_3 x_0 x_32) h = S109_3 call (fun (x_0 : Int) (x_39 : Bool) h => (E109_4 N call) (T109_4 x_0 x_39) (L109_4 x_0 x_39) h) x_0 x_32 h := by kernel_rfl
theorem Z109_3 (N : Nat) (call : CT) (x_0 : Int) (x_32 : Bool) (h : H) : E109_3 N call (T109_3 x_0 x_32) (L109_3 x_0 x_32) h = C109_3 N call x_0 x_32 h := by
  have e4 : (fun (x_0 : Int) (x_39 : Bool) h => (E109_4 N call) (T109_4 x_0 x_39) (L109_4 x_0 x_39) h) = (C109_4 N call) := by
    funext x_0 x_39 h
    exact Z109_4 N call x_0 x_39 h
  have r := R109_3 N call x_0 x_32 h
  rw [e4] at r
  have z : S109_3 call (C109_4 N call) x_0 x_32 h = C109_3 N call x_0 x_32 h := by kernel_rfl
  exact r.trans z
theorem R109_2 (N : Nat) (call : CT) (x_0 : Int) (x_5 : Bool) (h : H) : E109_2 N call (T109_2 x_0 x_5) (L109_2 x_0 x_5) h = S109_2 call (fun (x_0 : Int) (x_32 : Bool) h => (E109_3 N call) (T109_3 x_0 x_32) (L109_3 x_0 x_32) h) x_0 x_5 h := by kernel_rfl
theorem Z109_2 (N : Nat) (call : CT) (x_0 : Int) (x_5 : Bool) (h : H) : E109_2 N call (T109_2 x_0 x_5) (L109_2 x_0 x_5) h = C109_2 N call x_0 x_5 h := by
  have e3 : (fun (x_0 : Int) (x_32 : Bool) h => (E109_3 N call) (T109_3 x_0 x_32) (L109_3 x_0 x_32) h) = (C109_3 N call) := by
    funext x_0 x_32 h
    exact Z109_3 N call x_0 x_32 h
  have r := R109_2 N call x_0 x_5 h
  rw [e3] at r
  have z : S109_2 call (C109_3 N call) x_0 x_5 h = C109_2 N call x_0 x_5 h := by kernel_rfl
  exact r.trans z
theorem R109_0 (N : Nat) (call : CT) (y0 : AV) (h : H) : body Tryz.prog N call Tryz.f109 A109.an [y0] h = S109_0 call (fun (x_0 : Int) (x_5 : Bool) h => (E109_2 N call) (T109_2 x_0 x_5) (L109_2 x_0 x_5) h) y0 h := by kernel_rfl
theorem Z109 (N : Nat) (call : CT) (y0 : AV) (h : H) : body Tryz.prog N call Tryz.f109 A109.an [y0] h = S109 N call y0 h := by
  have e2 : (fun (x_0 : Int) (x_5 : Bool) h => (E109_2 N call) (T109_2 x_0 x_5) (L109_2 x_0 x_5) h) = (C109_2 N call) := by
    funext x_0 x_5 h
    exact Z109_2 N call x_0 x_5 h
  have r := R109_0 N call y0 h
  rw [e2] at r
  have z : S109_0 call (C109_2 N call) y0 h = S109 N call y0 h := by kernel_rfl
  exact r.trans z
theorem V109 (N : Nat) (call : CT) (vs : List AV) (h : H) : body Tryz.prog N call Tryz.f109 A109.an vs h = row1 (fun y0 => S109 N call y0 h) vs := wrap1 (by kernel_rfl) (fun y0 => Z109 N call y0 h) vs
/- sibyl/sibylref2.word -/
def A110.a0 : Ann := .items [.op 0]
def A110.a1 : Ann := .items [.op 0, .op 1]
def A110.a2 : Ann := .items [.op 0]
def A110.a3 : Ann := .items [.op 0, .op 1, .op 2, .op 3]
def A110.a4 : Ann := .leaf
def A110.a5 : Ann := .leaf
def A110.a6 : Ann := .two A110.a4 A110.a5
def A110.a7 : Ann := .two A110.a3 A110.a6
def A110.a8 : Ann := .items [.op 0, .op 1, .op 2, .op 3, .op 4, .op 5]
def A110.a9 : Ann := .items [.op 0]
def A110.a10 : Ann := .leaf
def A110.a11 : Ann := .two A110.a9 A110.a10
def A110.a12 : Ann := .leaf
def A110.a13 : Ann := .two A110.a11 A110.a12
def A110.a14 : Ann := .two A110.a8 A110.a13
def A110.a15 : Ann := .one A110.a14
def A110.a16 : Ann := .items [.op 0, .op 1, .op 2]
def A110.a17 : Ann := .two A110.a15 A110.a16
def A110.a18 : Ann := .two A110.a7 A110.a17
def A110.a19 : Ann := .meet [0, 3, 4] [] A110.a18
def A110.a20 : Ann := .one A110.a19
def A110.a21 : Ann := .two A110.a2 A110.a20
def A110.a22 : Ann := .items [.op 0]
def A110.a23 : Ann := .leaf
def A110.a24 : Ann := .two A110.a22 A110.a23
def A110.a25 : Ann := .two A110.a21 A110.a24
def A110.a26 : Ann := .two A110.a1 A110.a25
def A110.an : Ann := .two A110.a0 A110.a26
def F110_1 (N : Nat) (call : CT) (self : K3) : K3 :=
  (codeK Tryz.prog N call (c1 (c1 (c2 (c1 (c2 (c2 (bodyOf Tryz.f110))))))) A110.a18 (fun T L h => self (keepT [0, 3, 4] T) (keepL [] L) h) (fun i T L h => match Nat.beq i 0 with | true => (codeK Tryz.prog N call (c2 (c2 (c2 (bodyOf Tryz.f110)))) A110.a24 (resK Tryz.prog Tryz.f110.results.toList) (fun _ _ _ _ => none) (resK Tryz.prog Tryz.f110.results.toList)) T L h | false => (fun _ _ _ _ => none) i T L h) (resK Tryz.prog Tryz.f110.results.toList))
def E110_1 (N : Nat) (call : CT) : K3 := iter (F110_1 N call) N
def S110_1 (call : CT) (k1 : List Nat → OA → Nat → Option Nat → Int → H → R) (x_0 : List Nat) (a_3 : OA) (n_3 : Nat) (c_3 : Option Nat) (x_4 : Int) (h : H) : R :=
  ifB (ltI x_4 (Int.ofNat n_3)) (idxAddr 1 a_3 n_3 x_4 (fun b1 o2 => ldK h b1 o2 1 (one (fun v3 => onStr v3 (fun s4 => ifB (eqS s4 x_0) (some ((.bool true), h)) (k1 x_0 a_3 n_3 c_3 (wrapF .i64 (Int.add x_4 (Int.ofNat 1))) h)))))) (some ((.bool false), h))
def S110_0 (call : CT) (k1 : List Nat → OA → Nat → Option Nat → Int → H → R) (y0 : AV) (h : H) : R :=
  onStr y0 (fun s1 => bindR (call 127 [] h) (fun v2 h3 => onSlice v2 (fun a4 n5 c6 => k1 s1 a4 n5 c6 (Int.ofNat 0) h3)))
def B110_1 (N : Nat) (call : CT) (ih : List Nat → OA → Nat → Option Nat → Int → H → R) : List Nat → OA → Nat → Option Nat → Int → H → R := S110_1 call ih
def I110_1 (N : Nat) (call : CT) (n : Nat) : List Nat → OA → Nat → Option Nat → Int → H → R := Nat.rec (motive := fun _ => List Nat → OA → Nat → Option Nat → Int → H → R) (fun _ _ _ _ _ _ => none) (fun _ ih => B110_1 N call ih) n
def C110_1 (N : Nat) (call : CT) : List Nat → OA → Nat → Option Nat → Int → H → R := I110_1 N call N
def S110 (N : Nat) (call : CT) (y0 : AV) (h : H) : R := S110_0 call (C110_1 N call) y0 h
def T110_1 (x_0 : List Nat) (a_3 : OA) (n_3 : Nat) (c_3 : Option Nat) (x_4 : Int) : LF := [(some (.v (.str x_0))), none, none, (some (.v (.slice a_3 n_3 c_3))), (some (.v (.int .i64 x_4))), oo, oo, oo, oo, oo, oo, oo, oo, oo, oo, oo, oo, oo]
def L110_1 (x_0 : List Nat) (a_3 : OA) (n_3 : Nat) (c_3 : Option Nat) (x_4 : Int) : LL := [oo, oo, oo, oo, oo, oo, oo, oo, oo, oo, oo, oo, oo, oo, oo, oo, oo, oo]
theorem R110_1 (N : Nat) (call : CT) (self : K3) (x_0 : List Nat) (a_3 : OA) (n_3 : Nat) (c_3 : Option Nat) (x_4 : Int) (h : H) : F110_1 N call self (T110_1 x_0 a_3 n_3 c_3 x_4) (L110_1 x_0 a_3 n_3 c_3 x_4) h = S110_1 call (fun (x_0 : List Nat) (a_3 : OA) (n_3 : Nat) (c_3 : Option Nat) (x_4 : Int) h => self (T110_1 x_0 a_3 n_3 c_3 x_4) (L110_1 x_0 a_3 n_3 c_3 x_4) h) x_0 a_3 n_3 c_3 x_4 h := by kernel_rfl
theorem Q110_1 (N : Nat) (call : CT) (n : Nat) : ∀ (x_0 : List Nat) (a_3 : OA) (n_3 : Nat) (c_3 : Option Nat) (x_4 : Int) (h : H), (iter (F110_1 N call) n) (T110_1 x_0 a_3 n_3 c_3 x_4) (L110_1 x_0 a_3 n_3 c_3 x_4) h = I110_1 N call n x_0 a_3 n_3 c_3 x_4 h := by
  induction n with
  | zero => intros; exact (iter_zero _ _ _ _).trans (by kernel_rfl)
  | succ n ih =>
    intro x_0 a_3 n_3 c_3 x_4 h
    have e0 : (fun (x_0 : List Nat) (a_3 : OA) (n_3 : Nat) (c_3 : Option Nat) (x_4 : Int) h => (iter (F110_1 N call) n) (T110_1 x_0 a_3 n_3 c_3 x_4) (L110_1 x_0 a_3 n_3 c_3 x_4) h) = (I110_1 N call n) := by funext x_0 a_3 n_3 c_3 x_4 h; exact ih x_0 a_3 n_3 c_3 x_4 h
    have r := R110_1 N call (iter (F110_1 N call) n) x_0 a_3 n_3 c_3 x_4 h
    rw [e0] at r
    have g := iter_succ (F110_1 N call) n (T110_1 x_0 a_3 n_3 c_3 x_4) (L110_1 x_0 a_3 n_3 c_3 x_4) h
    have z : S110_1 call (I110_1 N call n) x_0 a_3 n_3 c_3 x_4 h = I110_1 N call (n + 1) x_0 a_3 n_3 c_3 x_4 h := by kernel_rfl
    exact g.trans (r.trans z)
theorem Z110_1 (N : Nat) (call : CT) (x_0 : List Nat) (a_3 : OA) (n_3 : Nat) (c_3 : Option Nat) (x_4 : Int) (h : H) : (E110_1 N call) (T110_1 x_0 a_3 n_3 c_3 x_4) (L110_1 x_0 a_3 n_3 c_3 x_4) h = C110_1 N call x_0 a_3 n_3 c_3 x_4 h := by
  have g : (E110_1 N call) (T110_1 x_0 a_3 n_3 c_3 x_4) (L110_1 x_0 a_3 n_3 c_3 x_4) h = iter (F110_1 N call) N (T110_1 x_0 a_3 n_3 c_3 x_4) (L110_1 x_0 a_3 n_3 c_3 x_4) h := by kernel_rfl
  have z : I110_1 N call N x_0 a_3 n_3 c_3 x_4 h = C110_1 N call x_0 a_3 n_3 c_3 x_4 h := by kernel_rfl
  exact g.trans ((Q110_1 N call N x_0 a_3 n_3 c_3 x_4 h).trans z)
theorem R110_0 (N : Nat) (call : CT) (y0 : AV) (h : H) : body Tryz.prog N call Tryz.f110 A110.an [y0] h = S110_0 call (fun (x_0 : List Nat) (a_3 : OA) (n_3 : Nat) (c_3 : Option Nat) (x_4 : Int) h => (E110_1 N call) (T110_1 x_0 a_3 n_3 c_3 x_4) (L110_1 x_0 a_3 n_3 c_3 x_4) h) y0 h := by kernel_rfl
theorem Z110 (N : Nat) (call : CT) (y0 : AV) (h : H) : body Tryz.prog N call Tryz.f110 A110.an [y0] h = S110 N call y0 h := by
  have e1 : (fun (x_0 : List Nat) (a_3 : OA) (n_3 : Nat) (c_3 : Option Nat) (x_4 : Int) h => (E110_1 N call) (T110_1 x_0 a_3 n_3 c_3 x_4) (L110_1 x_0 a_3 n_3 c_3 x_4) h) = (C110_1 N call) := by
    funext x_0 a_3 n_3 c_3 x_4 h
    exact Z110_1 N call x_0 a_3 n_3 c_3 x_4 h
  have r := R110_0 N call y0 h
  rw [e1] at r
  have z : S110_0 call (C110_1 N call) y0 h = S110 N call y0 h := by kernel_rfl
  exact r.trans z
theorem V110 (N : Nat) (call : CT) (vs : List AV) (h : H) : body Tryz.prog N call Tryz.f110 A110.an vs h = row1 (fun y0 => S110 N call y0 h) vs := wrap1 (by kernel_rfl) (fun y0 => Z110 N call y0 h) vs
/- (*sibyl/sibylref4.parser).and -/
def A111.a0 : Ann := .items [.opL 0]
def A111.a1 : Ann := .items [.op 0, .op 1, .op 2, .opL 3, .op 4]
def A111.a2 : Ann := .items [.op 0, .op 1]
def A111.a3 : Ann := .leaf
def A111.a4 : Ann := .leaf
def A111.a5 : Ann := .two A111.a3 A111.a4
def A111.a6 : Ann := .two A111.a2 A111.a5
def A111.a7 : Ann := .items [.op 0, .op 1, .opL 2, .op 3]
def A111.a8 : Ann := .drawn [.op 3, .op 4, .op 5, .op 2, .op 6, .op 0, .op 1, .op 7, .op 8]
def A111.a9 : Ann := .two A111.a7 A111.a8
def A111.a10 : Ann := .one A111.a9
def A111.a11 : Ann := .two A111.a6 A111.a10
def A111.a12 : Ann := .meet [0, 1, 4, 5] [4, 5] A111.a11
def A111.a13 : Ann := .one A111.a12
def A111.a14 : Ann := .items [.op 0, .op 1]
def A111.a15 : Ann := .leaf
def A111.a16 : Ann := .two A111.a14 A111.a15
def A111.a17 : Ann := .two A111.a13 A111.a16
def A111.a18 : Ann := .two A111.a1 A111.a17
def A111.an : Ann := .two A111.a0 A111.a18
def F111_1 (N : Nat) (call : CT) (self : K3) : K3 :=
  (codeK Tryz.prog N call (c1 (c1 (c1 (c2 (c2 (bodyOf Tryz.f111)))))) A111.a11 (fun T L h => self (keepT [0, 1, 4, 5] T) (keepL [4, 5] L) h) (fun i T L h => match Nat.beq i 0 with | true => (codeK Tryz.prog N call (c2 (c2 (c2 (bodyOf Tryz.f111)))) A111.a16 (resK Tryz.prog Tryz.f111.results.toList) (fun _ _ _ _ => none) (resK Tryz.prog Tryz.f111.results.toList)) T L h | false => (fun _ _ _ _ => none) i T L h) (resK Tryz.prog Tryz.f111.results.toList))
def E111_1 (N : Nat) (call : CT) : K3 := iter (F111_1 N call) N
def S111_1 (call : CT) (k1 : OA → Int → AV → AV → AV → AV → AV → AV → AV → AV → AV → AV → H → R) (x_0 : OA) (x_1 : Int) (l4_0 l4_1 : AV) (l4_2 l4_3 : AV) (l4_4 l5_0 : AV) (l5_1 l5_2 : AV) (l5_3 l5_4 : AV) (h : H) : R :=
  bindR (call 28 [(.ptr x_0), (.str [38])] h) (fun v1 h2 => onBool v1 (fun e3 => ifB e3 (bindR (call 55 [(.ptr x_0)] h2) (fun v4 h5 => onAgR v4 (fun l10 => row4 (fun x6 x7 x8 x9 => bindR (call 128 [(.ptr x_0), (.int .i64 x_1)] h5) (fun v11 h12 => onAgR v11 (fun l18 => row5 (fun x13 x14 x15 x16 x17 => guardB (sameAV (.agg [l5_0, l5_1, l5_2, l5_3, l5_4]) (.agg [l5_0, l5_1, l5_2, l5_3, l5_4])) (newK h12 [l5_0, l5_1, l5_2, l5_3, l5_4, x13, x14, x15, x16, x17] (fun b19 h20 => guardB (sameAV x9 x9) (guardB (sameAV x9 x9) (onInt .i64 x9 (fun i21 => k1 x_0 x_1 l4_0 l4_1 l4_2 l4_3 l4_4 (.str [97, 110, 100]) (.str []) (.int .i64 (Int.ofNat 0)) (.int .i64 i21) (.slice (some (b19, 0)) 2 (some 2)) h20)))))) l18))) l10))) (some ((.agg [l5_0, l5_1, l5_2, l5_3, l5_4]), h2))))
def S111_0 (call : CT) (k1 : OA → Int → AV → AV → AV → AV → AV → AV → AV → AV → AV → AV → H → R) (y0 y1 : AV) (h : H) : R :=
  onPtr y0 (fun p1 => onInt .i64 y1 (fun i2 => bindR (call 128 [(.ptr p1), (.int .i64 i2)] h) (fun v3 h4 => onAgR v3 (fun l10 => row5 (fun x5 x6 x7 x8 x9 => k1 p1 i2 (.str []) (.str []) (.int .i64 (Int.ofNat 0)) (.int .i64 (Int.ofNat 0)) (.slice none 0 (some 0)) x5 x6 x7 x8 x9 h4) l10))))
def B111_1 (N : Nat) (call : CT) (ih : OA → Int → AV → AV → AV → AV → AV → AV → AV → AV → AV → AV → H → R) : OA → Int → AV → AV → AV → AV → AV → AV → AV → AV → AV → AV → H → R := S111_1 call ih
def I111_1 (N : Nat) (call : CT) (n : Nat) : OA → Int → AV → AV → AV → AV → AV → AV → AV → AV → AV → AV → H → R := Nat.rec (motive := fun _ => OA → Int → AV → AV → AV → AV → AV → AV → AV → AV → AV → AV → H → R) (fun _ _ _ _ _ _ _ _ _ _ _ _ _ => none) (fun _ ih => B111_1 N call ih) n
def C111_1 (N : Nat) (call : CT) : OA → Int → AV → AV → AV → AV → AV → AV → AV → AV → AV → AV → H → R := I111_1 N call N
def S111 (N : Nat) (call : CT) (y0 y1 : AV) (h : H) : R := S111_0 call (C111_1 N call) y0 y1 h
def T111_1 (x_0 : OA) (x_1 : Int) (l4_0 l4_1 : AV) (l4_2 l4_3 : AV) (l4_4 l5_0 : AV) (l5_1 l5_2 : AV) (l5_3 l5_4 : AV) : LF := [(some (.v (.ptr x_0))), (some (.v (.int .i64 x_1))), none, none, (some (.lptr 4 0)), (some (.lptr 5 0)), oo, oo, oo, oo, oo, oo, oo, oo, oo, oo, oo, oo, oo, oo, oo, oo, oo]
def L111_1 (x_0 : OA) (x_1 : Int) (l4_0 l4_1 : AV) (l4_2 l4_3 : AV) (l4_4 l5_0 : AV) (l5_1 l5_2 : AV) (l5_3 l5_4 : AV) : LL := [oo, oo, oo, oo, (some (.cells [l4_0, l4_1, l4_2, l4_3, l4_4])), (some (.cells [l5_0, l5_1, l5_2, l5_3, l5_4])), oo, oo, oo, oo, oo, oo, oo, oo, oo, oo, oo, oo, oo, oo, oo, oo, oo]
theorem R111_1 (N : Nat) (call : CT) (self : K3) (x_0 : OA) (x_1 : Int) (l4_0 l4_1 : AV) (l4_2 l4_3 : AV) (l4_4 l5_0 : AV) (l5_1 l5_2 : AV) (l5_3 l5_4 : AV) (h : H) : F111_1 N call self (T111_1 x_0 x_1 l4_0 l4_1 l4_2 l4_3 l4_4 l5_0 l5_1 l5_2 l5_3 l5_4) (L111_1 x_0 x_1 l4_0 l4_1 l4_2 l4_3 l4_4 l5_0 l5_1 l5_2 l5_3 l5_4) h = S111_1 call (fun (x_0 : OA) (x_1 : Int) (l4_0 l4_1 : AV) (l4_2 l4_3 : AV) (l4_4 l5_0 : AV) (l5_1 l5_2 : AV) (l5_3 l5_4 : AV) h => self (T111_1 x_0 x_1 l4_0 l4_1 l4_2 l4_3 l4_4 l5_0 l5_1 l5_2 l5_3 l5_4) (L111_1 x_0 x_1 l4_0 l4_1 l4_2 l4_3 l4_4 l5_0 l5_1 l5_2 l5_3 l5_4) h) x_0 x_1 l4_0 l4_1 l4_2 l4_3 l4_4 l5_0 l5_1 l5_2 l5_3 l5_4 h := by kernel_rfl
theorem Q111_1 (N : Nat) (call : CT) (n : Nat) : ∀ (x_0 : OA) (x_1 : Int) (l4_0 l4_1 : AV) (l4_2 l4_3 : AV) (l4_4 l5_0 : AV) (l5_1 l5_2 : AV) (l5_3 l5_4 : AV) (h : H), (iter (F111_1 N call) n) (T111_1 x_0 x_1 l4_0 l4_1 l4_2 l4_3 l4_4 l5_0 l5_1 l5_2 l5_3 l5_4) (L111_1 x_0 x_1 l4_0 l4_1 l4_2 l4_3 l4_4 l5_0 l5_1 l5_2 l5_3 l5_4) h = I111_1 N call n x_0 x_1 l4_0 l4_1 l4_2 l4_3 l4_4 l5_0 l5_1 l5_2 l5_3 l5_4 h := by
  induction n with
  | zero => intros; exact (iter_zero _ _ _ _).trans (by kernel_rfl)
  | succ n ih =>
    intro x_0 x_1 l4_0 l4_1 l4_2 l4_3 l4_4 l5_0 l5_1 l5_2 l5_3 l5_4 h
    have e0 : (fun (x_0 : OA) (x_1 : Int) (l4_0 l4_1 : AV) (l4_2 l4_3 : AV) (l4_4 l5_0 : AV) (l5_1 l5_2 : AV) (l5_3 l5_4 : AV) h => (iter (F111_1 N call) n) (T111_1 x_0 x_1 l4_0 l4_1 l4_2 l4_3 l4_4 l5_0 l5_1 l5_2 l5_3 l5_4) (L111_1 x_0 x_1 l4_0 l4_1 l4_2 l4_3 l4_4 l5_0 l5_1 l5_2 l5_3 l5_4) h) = (I111_1 N call n) := by funext x_0 x_1 l4_0 l4_1 l4_2 l4_3 l4_4 l5_0 l5_1 l5_2 l5_3 l5_4 h; exact ih x_0 x_1 l4_0 l4_1 l4_2 l4_3 l4_4 l5_0 l5_1 l5_2 l5_3 l5_4 h
    have r := R111_1 N call (iter (F111_1 N call) n) x_0 x_1 l4_0 l4_1 l4_2 l4_3 l4_4 l5_0 l5_1 l5_2 l5_3 l5_4 h
    rw [e0] at r
    have g := iter_succ (F111_1 N call) n (T111_1 x_0 x_1 l4_0 l4_1 l4_2 l4_3 l4_4 l5_0 l5_1 l5_2 l5_3 l5_4) (L111_1 x_0 x_1 l4_0 l4_1 l4_2 l4_3 l4_4 l5_0 l5_1 l5_2 l5_3 l5_4) h
    have z : S111_1 call (I111_1 N call n) x_0 x_1 l4_0 l4_1 l4_2 l4_3 l4_4 l5_0 l5_1 l5_2 l5_3 l5_4 h = I111_1 N call (n + 1) x_0 x_1 l4_0 l4_1 l4_2 l4_3 l4_4 l5_0 l5_1 l5_2 l5_3 l5_4 h := by kernel_rfl
    exact g.trans (r.trans z)
theorem Z111_1 (N : Nat) (call : CT) (x_0 : OA) (x_1 : Int) (l4_0 l4_1 : AV) (l4_2 l4_3 : AV) (l4_4 l5_0 : AV) (l5_1 l5_2 : AV) (l5_3 l5_4 : AV) (h : H) : (E111_1 N call) (T111_1 x_0 x_1 l4_0 l4_1 l4_2 l4_3 l4_4 l5_0 l5_1 l5_2 l5_3 l5_4) (L111_1 x_0 x_1 l4_0 l4_1 l4_2 l4_3 l4_4 l5_0 l5_1 l5_2 l5_3 l5_4) h = C111_1 N call x_0 x_1 l4_0 l4_1 l4_2 l4_3 l4_4 l5_0 l5_1 l5_2 l5_3 l5_4 h := by
  have g : (E111_1 N call) (T111_1 x_0 x_1 l4_0 l4_1 l4_2 l4_3 l4_4 l5_0 l5_1 l5_2 l5_3 l5_4) (L111_1 x_0 x_1 l4_0 l4_1 l4_2 l4_3 l4_4 l5_0 l5_1 l5_2 l5_3 l5_4) h = iter (F111_1 N call) N (T111_1 x_0 x_1 l4_0 l4_1 l4_2 l4_3 l4_4 l5_0 l5_1 l5_2 l5_3 l5_4) (L111_1 x_0 x_1 l4_0 l4_1 l4_2 l4_3 l4_4 l5_0 l5_1 l5_2 l5_3 l5_4) h := by kernel_rfl
  have z : I111_1 N call N x_0 x_1 l4_0 l4_1 l4_2 l4_3 l4_4 l5_0 l5_1 l5_2 l5_3 l5_4 h = C111_1 N call x_0 x_1 l4_0 l4_1 l4_2 l4_3 l4_4 l5_0 l5_1 l5_2 l5_3 l5_4 h := by kernel_rfl
  exact g.trans ((Q111_1 N call N x_0 x_1 l4_0 l4_1 l4_2 l4_3 l4_4 l5_0 l5_1 l5_2 l5_3 l5_4 h).trans z)
theorem R111_0 (N : Nat) (call : CT) (y0 y1 : AV) (h : H) : body Tryz.prog N call Tryz.f111 A111.an [y0, y1] h = S111_0 call (fun (x_0 : OA) (x_1 : Int) (l4_0 l4_1 : AV) (l4_2 l4_3 : AV) (l4_4 l5_0 : AV) (l5_1 l5_2 : AV) (l5_3 l5_4 : AV) h => (E111_1 N call) (T111_1 x_0 x_1 l4_0 l4_1 l4_2 l4_3 l4_4 l5_0 l5_1 l5_2 l5_3 l5_4) (L111_1 x_0 x_1 l4_0 l4_1 l4_2 l4_3 l4_4 l5_0 l5_1 l5_2 l5_3 l5_4) h) y0 y1 h := by kernel_rfl
theorem Z111 (N : Nat) (call : CT) (y0 y1 : AV) (h : H) : body Tryz.prog N call Tryz.f111 A111.an [y0, y1] h = S111 N call y0 y1 h := by
  have e1 : (fun (x_0 : OA) (x_1 : Int) (l4_0 l4_1 : AV) (l4_2 l4_3 : AV) (l4_4 l5_0 : AV) (l5_1 l5_2 : AV) (l5_3 l5_4 : AV) h => (E111_1 N call) (T111_1 x_0 x_1 l4_0 l4_1 l4_2 l4_3 l4_4 l5_0 l5_1 l5_2 l5_3 l5_4) (L111_1 x_0 x_1 l4_0 l4_1 l4_2 l4_3 l4_4 l5_0 l5_1 l5_2 l5_3 l5_4) h) = (C111_1 N call) := by
    funext x_0 x_1 l4_0 l4_1 l4_2 l4_3 l4_4 l5_0 l5_1 l5_2 l5_3 l5_4 h
    exact Z111_1 N call x_0 x_1 l4_0 l4_1 l4_2 l4_3 l4_4 l5_0 l5_1 l5_2 l5_3 l5_4 h
  have r := R111_0 N call y0 y1 h
  rw [e1] at r
  have z : S111_0 call (C111_1 N call) y0 y1 h = S111 N call y0 y1 h := by kernel_rfl
  exact r.trans z
theorem V111 (N : Nat) (call : CT) (vs : List AV) (h : H) : body Tryz.prog N call Tryz.f111 A111.an vs h = row2 (fun y0 y1 => S111 N call y0 y1 h) vs := wrap2 (by kernel_rfl) (fun y0 y1 => Z111 N call y0 y1 h) vs
/- sibyl/runes.Each -/
def A113.a0 : Ann := .items [.op 0, .op 1]
def A113.a1 : Ann := .items [.op 0, .opL 1]
def A113.a2 : Ann := .items [.op 0, .op 1]
def A113.a3 : Ann := .leaf
def A113.a4 : Ann := .leaf
def A113.a5 : Ann := .two A113.a3 A113.a4
def A113.a6 : Ann := .items [.op 0, .op 1, .op 2, .op 3]
def A113.a7 : Ann := .items [.op 0, .op 1, .op 2, .op 3]
def A113.a8 : Ann := .items [.op 0, .op 1, .op 2, .op 3]
def A113.a9 : Ann := .leaf
def A113.a10 : Ann := .two A113.a8 A113.a9
def A113.a11 : Ann := .leaf
def A113.a12 : Ann := .two A113.a10 A113.a11
def A113.a13 : Ann := .two A113.a7 A113.a12
def A113.a14 : Ann := .items [.op 0, .op 1, .op 2, .op 3, .opL 4, .op 5, .op 6]
def A113.a15 : Ann := .two A113.a13 A113.a14
def A113.a16 : Ann := .two A113.a6 A113.a15
def A113.a17 : Ann := .one A113.a16
def A113.a18 : Ann := .two A113.a5 A113.a17
def A113.a19 : Ann := .join [0, 2, 7, 8, 9] [7] A113.a2 A113.a18
def A113.a20 : Ann := .meet [0, 2, 7] [7] A113.a19
def A113.a21 : Ann := .one A113.a20
def A113.a22 : Ann := .two A113.a1 A113.a21
def A113.a23 : Ann := .items [.op 0, .op 1, .op 2]
def A113.a24 : Ann := .leaf
def A113.a25 : Ann := .two A113.a23 A113.a24
def A113.a26 : Ann := .two A113.a22 A113.a25
def A113.an : Ann := .two A113.a0 A113.a26
def F113_1 (N : Nat) (call : CT) (self : K3) : K3 :=
  (codeK Tryz.prog N call (c1 (c1 (c2 (c1 (c2 (bodyOf Tryz.f113)))))) A113.a19 (fun T L h => self (keepT [0, 2, 7] T) (keepL [7] L) h) (fun i T L h => match Nat.beq i 0 with | true => (codeK Tryz.prog N call (c2 (c2 (bodyOf Tryz.f113))) A113.a25 (resK Tryz.prog Tryz.f113.results.toList) (fun _ _ _ _ => none) (resK Tryz.prog Tryz.f113.results.toList)) T L h | false => (fun _ _ _ _ => none) i T L h) (resK Tryz.prog Tryz.f113.results.toList))
def E113_1 (N : Nat) (call : CT) : K3 := iter (F113_1 N call) N
def E113_2 (N : Nat) (call : CT) (D1 : K3) : K3 :=
  (codeK Tryz.prog N call (c2 (c1 (c1 (c2 (c1 (c2 (bodyOf Tryz.f113))))))) A113.a18 (fun T L h => D1 (keepT [0, 2, 7] T) (keepL [7] L) h) (fun i T L h => match Nat.beq i 0 with | true => (codeK Tryz.prog N call (c2 (c2 (bodyOf Tryz.f113))) A113.a25 (resK Tryz.prog Tryz.f113.results.toList) (fun _ _ _ _ => none) (resK Tryz.prog Tryz.f113.results.toList)) T L h | false => (fun _ _ _ _ => none) i T L h) (resK Tryz.prog Tryz.f113.results.toList))
def S113_1 (call : CT) (k2 : List Nat → OA → Nat → Option Nat → AV → Bool → List Nat → Nat → H → R) (x_0 : List Nat) (a_2 : OA) (n_2 : Nat) (c_2 : Option Nat) (is7 : List Nat) (ip7 : Nat) (h : H) : R :=
  nextS is7 (fun r1 w2 => k2 x_0 a_2 n_2 c_2 (.tuple [(.bool true), (.int .i64 (Int.ofNat ip7)), (.int .i32 (Int.ofNat r1))]) true (is7.drop w2) (ip7 + w2) h) (k2 x_0 a_2 n_2 c_2 (.tuple [(.bool false)]) false is7 ip7 h)
def S113_2 (call : CT) (k1 : List Nat → OA → Nat → Option Nat → List Nat → Nat → H → R) (x_0 : List Nat) (a_2 : OA) (n_2 : Nat) (c_2 : Option Nat) (x_8 : AV) (x_9 : Bool) (is7 : List Nat) (ip7 : Nat) (h : H) : R :=
  ifB x_9 (onTuple x_8 1 (fun v1 => onInt .i64 v1 (fun i2 => onTuple x_8 2 (fun v3 => onInt .i32 v3 (fun i4 => bindR (call 129 [(.str x_0), (.int .i64 i2), (.int .i32 i4)] h) (fun v5 h6 => onBool v5 (fun e7 => ifB e7 (some (.tuple [(.slice a_2 n_2 c_2), (.int .i64 i2)], h6)) (appL h6 2 a_2 n_2 c_2 1 [(.int .i32 i4), (.int .i64 i2)] (fun a8 n9 c10 h11 => k1 x_0 a8 n9 c10 is7 ip7 h11))))))))) (some (.tuple [(.slice a_2 n_2 c_2), (.int .i64 (Int.negSucc 0))], h))
def S113_0 (call : CT) (k1 : List Nat → OA → Nat → Option Nat → List Nat → Nat → H → R) (y0 : AV) (h : H) : R :=
  onStr y0 (fun s1 => k1 s1 none 0 (some 0) s1 0 h)
def C113_2 (N : Nat) (call : CT) (k1 : List Nat → OA → Nat → Option Nat → List Nat → Nat → H → R) : List Nat → OA → Nat → Option Nat → AV → Bool → List Nat → Nat → H → R := S113_2 call k1
def B113_1 (N : Nat) (call : CT) (ih : List Nat → OA → Nat → Option Nat → List Nat → Nat → H → R) : List Nat → OA → Nat → Option Nat → List Nat → Nat → H → R := S113_1 call (C113_2 N call ih)
def I113_1 (N : Nat) (call : CT) (n : Nat) : List Nat → OA → Nat → Option Nat → List Nat → Nat → H → R := Nat.rec (motive := fun _ => List Nat → OA → Nat → Option Nat → List Nat → Nat → H → R) (fun _ _ _ _ _ _ _ => none) (fun _ ih => B113_1 N call ih) n
def C113_1 (N : Nat) (call : CT) : List Nat → OA → Nat → Option Nat → List Nat → Nat → H → R := I113_1 N call N
def S113 (N : Nat) (call : CT) (y0 : AV) (h : H) : R := S113_0 call (C113_1 N call) y0 h
def T113_1 (x_0 : List Nat) (a_2 : OA) (n_2 : Nat) (c_2 : Option Nat) (is7 : List Nat) (ip7 : Nat) : LF := [(some (.v (.str x_0))), none, (some (.v (.slice a_2 n_2 c_2))), oo, oo, oo, oo, (some (.lptr 7 0)), oo, oo, oo, oo, oo, oo, oo, oo, oo, oo, oo, oo, oo, oo, oo, oo, oo]
def L113_1 (x_0 : List Nat) (a_2 : OA) (n_2 : Nat) (c_2 : Option Nat) (is7 : List Nat) (ip7 : Nat) : LL := [oo, oo, oo, oo, oo, oo, oo, (some (.iter is7 ip7)), oo, oo, oo, oo, oo, oo, oo, oo, oo, oo, oo, oo, oo, oo, oo, oo, oo]
def T113_2 (x_0 : List Nat) (a_2 : OA) (n_2 : Nat) (c_2 : Option Nat) (x_8 : AV) (x_9 : Bool) (is7 : List Nat) (ip7 : Nat) : LF := [(some (.v (.str x_0))), none, (some (.v (.slice a_2 n_2 c_2))), oo, oo, oo, oo, (some (.lptr 7 0)), (some (.v x_8)), (some (.v (.bool x_9))), oo, oo, oo, oo, oo, oo, oo, oo, oo, oo, oo, oo, oo, oo, oo]
def L113_2 (x_0 : List Nat) (a_2 : OA) (n_2 : Nat) (c_2 : Option Nat) (x_8 : AV) (x_9 : Bool) (is7 : List Nat) (ip7 : Nat) : LL := [oo, oo, oo, oo, oo, oo, oo, (some (.iter is7 ip7)), oo, oo, oo, oo, oo, oo, oo, oo, oo, oo, oo, oo, oo, oo, oo, oo, oo]
theorem W113_2 (N : Nat) (call : CT) (D1 : K3) : E113_2 N call D1 = (codeK Tryz.prog N call (c1 (c2 (c1 (c1 (c2 (c1 (c2 (bodyOf Tryz.f113)))))))) A113.a5 (codeK Tryz.prog N call (c1 (c1 (c2 (c2 (c1 (c1 (c2 (c1 (c2 (bodyOf Tryz.f113)))))))))) A113.a6 (codeK Tryz.prog N call (c1 (c1 (c2 (c1 (c2 (c2 (c1 (c1 (c2 (c1 (c2 (bodyOf Tryz.f113)))))))))))) A113.a7 (codeK Tryz.prog N call (c2 (c1 (c2 (c1 (c2 (c2 (c1 (c1 (c2 (c1 (c2 (bodyOf Tryz.f113)))))))))))) A113.a12 (codeK Tryz.prog N call (c2 (c2 (c1 (c2 (c2 (c1 (c1 (c2 (c1 (c2 (bodyOf Tryz.f113))))))))))) A113.a14 (fun T L h => D1 (keepT [0, 2, 7] T) (keepL [7] L) h) (fun i T L h => match Nat.beq i 1 with | true => (fun T L h => D1 (keepT [0, 2, 7] T) (keepL [7] L) h) T L h | false => (fun i T L h => match Nat.beq i 0 with | true => (codeK Tryz.prog N call (c1 (c2 (c2 (bodyOf Tryz.f113)))) A113.a23 (codeK Tryz.prog N call (c2 (c2 (c2 (bodyOf Tryz.f113)))) A113.a24 (resK Tryz.prog Tryz.f113.results.toList) (fun _ _ _ _ => none) (resK Tryz.prog Tryz.f113.results.toList)) (fun _ _ _ _ => none) (resK Tryz.prog Tryz.f113.results.toList)) T L h | false => (fun _ _ _ _ => none) i T L h) i T L h) (resK Tryz.prog Tryz.f113.results.toList)) (fun i T L h => match Nat.beq i 1 with | true => (fun T L h => D1 (keepT [0, 2, 7] T) (keepL [7] L) h) T L h | false => (fun i T L h => match Nat.beq i 0 with | true => (codeK Tryz.prog N call (c1 (c2 (c2 (bodyOf Tryz.f113)))) A113.a23 (codeK Tryz.prog N call (c2 (c2 (c2 (bodyOf Tryz.f113)))) A113.a24 (resK Tryz.prog Tryz.f113.results.toList) (fun _ _ _ _ => none) (resK Tryz.prog Tryz.f113.results.toList)) (fun _ _ _ _ => none) (resK Tryz.prog Tryz.f113.results.toList)) T L h | false => (fun _ _ _ _ => none) i T L h) i T L h) (resK Tryz.prog Tryz.f113.results.toList)) (fun i T L h => match Nat.beq i 1 with | true => (fun T L h => D1 (keepT [0, 2, 7] T) (keepL [7] L) h) T L h | false => (fun i T L h => match Nat.beq i 0 with | true => (codeK Tryz.prog N call (c1 (c2 (c2 (bodyOf Tryz.f113)))) A113.a23 (codeK Tryz.prog N call (c2 (c2 (c2 (bodyOf Tryz.f113)))) A113.a24 (resK Tryz.prog Tryz.f113.results.toList) (fun _ _ _ _ => none) (resK Tryz.prog Tryz.f113.results.toList)) (fun _ _ _ _ => none) (resK Tryz.prog Tryz.f113.results.toList)) T L h | false => (fun _ _ _ _ => none) i T L h) i T L h) (resK Tryz.prog Tryz.f113.results.toList)) (fun i T L h => match Nat.beq i 1 with | true => (fun T L h => D1 (keepT [0, 2, 7] T) (keepL [7] L) h) T L h | false => (fun i T L h => match Nat.beq i 0 with | true => (codeK Tryz.prog N call (c1 (c2 (c2 (bodyOf Tryz.f113)))) A113.a23 (codeK Tryz.prog N call (c2 (c2 (c2 (bodyOf Tryz.f113)))) A113.a24 (resK Tryz.prog Tryz.f113.results.toList) (fun _ _ _ _ => none) (resK Tryz.prog Tryz.f113.results.toList)) (fun _ _ _ _ => none) (resK Tryz.prog Tryz.f113.results.toList)) T L h | false => (fun _ _ _ _ => none) i T L h) i T L h) (resK Tryz.prog Tryz.f113.results.toList)) (fun i T L h => match Nat.beq i 0 with | true => (codeK Tryz.prog N call (c1 (c2 (c2 (bodyOf Tryz.f113)))) A113.a23 (codeK Tryz.prog N call (c2 (c2 (c2 (bodyOf Tryz.f113)))) A113.a24 (resK Tryz.prog Tryz.f113.results.toList) (fun _ _ _ _ => none) (resK Tryz.prog Tryz.f113.results.toList)) (fun _ _ _ _ => none) (resK Tryz.prog Tryz.f113.results.toList)) T L h | false => (fun _ _ _ _ => none) i T L h) (resK Tryz.prog Tryz.f113.results.toList)) := by kernel_rfl
theorem P113_2 (N : Nat) (call : CT) (D1 : K3) (x_0 : List Nat) (a_2 : OA) (n_2 : Nat) (c_2 : Option Nat) (x_8 : AV) (x_9 : Bool) (is7 : List Nat) (ip7 : Nat) (h : H) : (codeK Tryz.prog N call (c1 (c2 (c1 (c1 (c2 (c1 (c2 (bodyOf Tryz.f113)))))))) A113.a5 (codeK Tryz.prog N call (c1 (c1 (c2 (c2 (c1 (c1 (c2 (c1 (c2 (bodyOf Tryz.f113)))))))))) A113.a6 (codeK Tryz.prog N call (c1 (c1 (c2 (c1 (c2 (c2 (c1 (c1 (c2 (c1 (c2 (bodyOf Tryz.f113)))))))))))) A113.a7 (codeK Tryz.prog N call (c2 (c1 (c2 (c1 (c2 (c2 (c1 (c1 (c2 (c1 (c2 (bodyOf Tryz.f113)))))))))))) A113.a12 (codeK Tryz.prog N call (c2 (c2 (c1 (c2 (c2 (c1 (c1 (c2 (c1 (c2 (bodyOf Tryz.f113))))))))))) A113.a14 (fun T L h => D1 (keepT [0, 2, 7] T) (keepL [7] L) h) (fun i T L h => match Nat.beq i 1 with | true => (fun T L h => D1 (keepT [0, 2, 7] T) (keepL [7] L) h) T L h | false => (fun i T L h => match Nat.beq i 0 with | true => (codeK Tryz.prog N call (c1 (c2 (c2 (bodyOf Tryz.f113)))) A113.a23 (codeK Tryz.prog N call (c2 (c2 (c2 (bodyOf Tryz.f113)))) A113.a24 (resK Tryz.prog Tryz.f113.results.toList) (fun _ _ _ _ => none) (resK Tryz.prog Tryz.f113.results.toList)) (fun _ _ _ _ => none) (resK Tryz.prog Tryz.f113.results.toList)) T L h | false => (fun _ _ _ _ => none) i T L h) i T L h) (resK Tryz.prog Tryz.f113.results.toList)) (fun i T L h => match Nat.beq i 1 with | true => (fun T L h => D1 (keepT [0, 2, 7] T) (keepL [7] L) h) T L h | false => (fun i T L h => match Nat.beq i 0 with | true => (codeK Tryz.prog N call (c1 (c2 (c2 (bodyOf Tryz.f113)))) A113.a23 (codeK Tryz.prog N call (c2 (c2 (c2 (bodyOf Tryz.f113)))) A113.a24 (resK Tryz.prog Tryz.f113.results.toList) (fun _ _ _ _ => none) (resK Tryz.prog Tryz.f113.results.toList)) (fun _ _ _ _ => none) (resK Tryz.prog Tryz.f113.results.toList)) T L h | false => (fun _ _ _ _ => none) i T L h) i T L h) (resK Tryz.prog Tryz.f113.results.toList)) (fun i T L h => match Nat.beq i 1 with | true => (fun T L h => D1 (keepT [0, 2, 7] T) (keepL [7] L) h) T L h | false => (fun i T L h => match Nat.beq i 0 with | true => (codeK Tryz.prog N call (c1 (c2 (c2 (bodyOf Tryz.f113)))) A113.a23 (codeK Tryz.prog N call (c2 (c2 (c2 (bodyOf Tryz.f113)))) A113.a24 (resK Tryz.prog Tryz.f113.results.toList) (fun _ _ _ _ => none) (resK Tryz.prog Tryz.f113.results.toList)) (fun _ _ _ _ => none) (resK Tryz.prog Tryz.f113.results.toList)) T L h | false => (fun _ _ _ _ => none) i T L h) i T L h) (resK Tryz.prog Tryz.f113.results.toList)) (fun i T L h => match Nat.beq i 1 with | true => (fun T L h => D1 (keepT [0, 2, 7] T) (keepL [7] L) h) T L h | false => (fun i T L h => match Nat.beq i 0 with | true => (codeK Tryz.prog N call (c1 (c2 (c2 (bodyOf Tryz.f113)))) A113.a23 (codeK Tryz.prog N call (c2 (c2 (c2 (bodyOf Tryz.f113)))) A113.a24 (resK Tryz.prog Tryz.f113.results.toList) (fun _ _ _ _ => none) (resK Tryz.prog Tryz.f113.results.toList)) (fun _ _ _ _ => none) (resK Tryz.prog Tryz.f113.results.toList)) T L h | false => (fun _ _ _ _ => none) i T L h) i T L h) (resK Tryz.prog Tryz.f113.results.toList)) (fun i T L h => match Nat.beq i 0 with | true => (codeK Tryz.prog N call (c1 (c2 (c2 (bodyOf Tryz.f113)))) A113.a23 (codeK Tryz.prog N call (c2 (c2 (c2 (bodyOf Tryz.f113)))) A113.a24 (resK Tryz.prog Tryz.f113.results.toList) (fun _ _ _ _ => none) (resK Tryz.prog Tryz.f113.results.toList)) (fun _ _ _ _ => none) (resK Tryz.prog Tryz.f113.results.toList)) T L h | false => (fun _ _ _ _ => none) i T L h) (resK Tryz.prog Tryz.f113.results.toList)) (T113_2 x_0 a_2 n_2 c_2 x_8 x_9 is7 ip7) (L113_2 x_0 a_2 n_2 c_2 x_8 x_9 is7 ip7) h = S113_2 call (fun (x_0 : List Nat) (a_2 : OA) (n_2 : Nat) (c_2 : Option Nat) (is7 : List Nat) (ip7 : Nat) h => D1 (T113_1 x_0 a_2 n_2 c_2 is7 ip7) (L113_1 x_0 a_2 n_2 c_2 is7 ip7) h) x_0 a_2 n_2 c_2 x_8 x_9 is7 ip7 h := by kernel_rfl
theorem R113_2 (N : Nat) (call : CT) (D1 : K3) (x_0 : List Nat) (a_2 : OA) (n_2 : Nat) (c_2 : Option Nat) (x_8 : AV) (x_9 : Bool) (is7 : List Nat) (ip7 : Nat) (h : H) : E113_2 N call D1 (T113_2 x_0 a_2 n_2 c_2 x_8 x_9 is7 ip7) (L113_2 x_0 a_2 n_2 c_2 x_8 x_9 is7 ip7) h = S113_2 call (fun (x_0 : List Nat) (a_2 : OA) (n_2 : Nat) (c_2 : Option Nat) (is7 : List Nat) (ip7 : Nat) h => D1 (T113_1 x_0 a_2 n_2 c_2 is7 ip7) (L113_1 x_0 a_2 n_2 c_2 is7 ip7) h) x_0 a_2 n_2 c_2 x_8 x_9 is7 ip7 h := (congrFun (congrFun (congrFun (W113_2 N call D1) _) _) _).trans (P113_2 N call D1 x_0 a_2 n_2 c_2 x_8 x_9 is7 ip7 h)
theorem Z113_2 (N : Nat) (call : CT) (D1 : K3) (x_0 : List Nat) (a_2 : OA) (n_2 : Nat) (c_2 : Option Nat) (x_8 : AV) (x_9 : Bool) (is7 : List Nat) (ip7 : Nat) (h : H) : E113_2 N call D1 (T113_2 x_0 a_2 n_2 c_2 x_8 x_9 is7 ip7) (L113_2 x_0 a_2 n_2 c_2 x_8 x_9 is7 ip7) h = C113_2 N call (fun (x_0 : List Nat) (a_2 : OA) (n_2 : Nat) (c_2 : Option Nat) (is7 : List Nat) (ip7 : Nat) h => D1 (T113_1 x_0 a_2 n_2 c_2 is7 ip7) (L113_1 x_0 a_2 n_2 c_2 is7 ip7) h) x_0 a_2 n_2 c_2 x_8 x_9 is7 ip7 h := by
  have r := R113_2 N call D1 x_0 a_2 n_2 c_2 x_8 x_9 is7 ip7 h
  have z : S113_2 call (fun (x_0 : List Nat) (a_2 : OA) (n_2 : Nat) (c_2 : Option Nat) (is7 : List Nat) (ip7 : Nat) h => D1 (T113_1 x_0 a_2 n_2 c_2 is7 ip7) (L113_1 x_0 a_2 n_2 c_2 is7 ip7) h) x_0 a_2 n_2 c_2 x_8 x_9 is7 ip7 h = C113_2 N call (fun (x_0 : List Nat) (a_2 : OA) (n_2 : Nat) (c_2 : Option Nat) (is7 : List Nat) (ip7 : Nat) h => D1 (T113_1 x_0 a_2 n_2 c_2 is7 ip7) (L113_1 x_0 a_2 n_2 c_2 is7 ip7) h) x_0 a_2 n_2 c_2 x_8 x_9 is7 ip7 h := by kernel_rfl
  exact r.trans z
theorem W113_1 (N : Nat) (call : CT) (self : K3) : F113_1 N call self = (codeK Tryz.prog N call (c1 (c1 (c1 (c2 (c1 (c2 (bodyOf Tryz.f113))))))) A113.a2 (fun T L h => (E113_2 N call self) (keepT [0, 2, 7, 8, 9] T) (keepL [7] L) h) (fun i T L h => match Nat.beq i 0 with | true => (codeK Tryz.prog N call (c1 (c2 (c2 (bodyOf Tryz.f113)))) A113.a23 (codeK Tryz.prog N call (c2 (c2 (c2 (bodyOf Tryz.f113)))) A113.a24 (resK Tryz.prog Tryz.f113.results.toList) (fun _ _ _ _ => none) (resK Tryz.prog Tryz.f113.results.toList)) (fun _ _ _ _ => none) (resK Tryz.prog Tryz.f113.results.toList)) T L h | false => (fun _ _ _ _ => none) i T L h) (resK Tryz.prog Tryz.f113.results.toList)) := by kernel_rfl
theorem P113_1 (N : Nat) (call : CT) (self : K3) (J2 : K3) (x_0 : List Nat) (a_2 : OA) (n_2 : Nat) (c_2 : Option Nat) (is7 : List Nat) (ip7 : Nat) (h : H) : (codeK Tryz.prog N call (c1 (c1 (c1 (c2 (c1 (c2 (bodyOf Tryz.f113))))))) A113.a2 (fun T L h => J2 (keepT [0, 2, 7, 8, 9] T) (keepL [7] L) h) (fun i T L h => match Nat.beq i 0 with | true => (codeK Tryz.prog N call (c1 (c2 (c2 (bodyOf Tryz.f113)))) A113.a23 (codeK Tryz.prog N call (c2 (c2 (c2 (bodyOf Tryz.f113)))) A113.a24 (resK Tryz.prog Tryz.f113.results.toList) (fun _ _ _ _ => none) (resK Tryz.prog Tryz.f113.results.toList)) (fun _ _ _ _ => none) (resK Tryz.prog Tryz.f113.results.toList)) T L h | false => (fun _ _ _ _ => none) i T L h) (resK Tryz.prog Tryz.f113.results.toList)) (T113_1 x_0 a_2 n_2 c_2 is7 ip7) (L113_1 x_0 a_2 n_2 c_2 is7 ip7) h = S113_1 call (fun (x_0 : List Nat) (a_2 : OA) (n_2 : Nat) (c_2 : Option Nat) (x_8 : AV) (x_9 : Bool) (is7 : List Nat) (ip7 : Nat) h => J2 (T113_2 x_0 a_2 n_2 c_2 x_8 x_9 is7 ip7) (L113_2 x_0 a_2 n_2 c_2 x_8 x_9 is7 ip7) h) x_0 a_2 n_2 c_2 is7 ip7 h := by kernel_rfl
theorem R113_1 (N : Nat) (call : CT) (self : K3) (x_0 : List Nat) (a_2 : OA) (n_2 : Nat) (c_2 : Option Nat) (is7 : List Nat) (ip7 : Nat) (h : H) : F113_1 N call self (T113_1 x_0 a_2 n_2 c_2 is7 ip7) (L113_1 x_0 a_2 n_2 c_2 is7 ip7) h = S113_1 call (fun (x_0 : List Nat) (a_2 : OA) (n_2 : Nat) (c_2 : Option Nat) (x_8 : AV) (x_9 : Bool) (is7 : List Nat) (ip7 : Nat) h => (E113_2 N call self) (T113_2 x_0 a_2 n_2 c_2 x_8 x_9 is7 ip7) (L113_2 x_0 a_2 n_2 c_2 x_8 x_9 is7 ip7) h) x_0 a_2 n_2 c_2 is7 ip7 h := (congrFun (congrFun (congrFun (W113_1 N call self) _) _) _).trans (P113_1 N call self (E113_2 N call self) x_0 a_2 n_2 c_2 is7 ip7 h)
theorem Q113_1 (N : Nat) (call : CT) (n : Nat) : ∀ (x_0 : List Nat) (a_2 : OA) (n_2 : Nat) (c_2 : Option Nat) (is7 : List Nat) (ip7 : Nat) (h : H), (iter (F113_1 N call) n) (T113_1 x_0 a_2 n_2 c_2 is7 ip7) (L113_1 x_0 a_2 n_2 c_2 is7 ip7) h = I113_1 N call n x_0 a_2 n_2 c_2 is7 ip7 h := by
  induction n with
  | zero => intros; exact (iter_zero _ _ _ _).trans (by kernel_rfl)
  | succ n ih =>
    intro x_0 a_2 n_2 c_2 is7 ip7 h
    have e0 : (fun (x_0 : List Nat) (a_2 : OA) (n_2 : Nat) (c_2 : Option Nat) (is7 : List Nat) (ip7 : Nat) h => (iter (F113_1 N call) n) (T113_1 x_0 a_2 n_2 c_2 is7 ip7) (L113_1 x_0 a_2 n_2 c_2 is7 ip7) h) = (I113_1 N call n) := by funext x_0 a_2 n_2 c_2 is7 ip7 h; exact ih x_0 a_2 n_2 c_2 is7 ip7 h
    have e2 : (fun (x_0 : List Nat) (a_2 : OA) (n_2 : Nat) (c_2 : Option Nat) (x_8 : AV) (x_9 : Bool) (is7 : List Nat) (ip7 : Nat) h => (E113_2 N call (iter (F113_1 N call) n)) (T113_2 x_0 a_2 n_2 c_2 x_8 x_9 is7 ip7) (L113_2 x_0 a_2 n_2 c_2 x_8 x_9 is7 ip7) h) = (C113_2 N call (I113_1 N call n)) := by
      funext x_0 a_2 n_2 c_2 x_8 x_9 is7 ip7 h
      have q := Z113_2 N call (iter (F113_1 N call) n) x_0 a_2 n_2 c_2 x_8 x_9 is7 ip7 h
      rw [e0] at q
      exact q
    have r := R113_1 N call (iter (F113_1 N call) n) x_0 a_2 n_2 c_2 is7 ip7 h
    rw [e2] at r
    have g := iter_succ (F113_1 N call) n (T113_1 x_0 a_2 n_2 c_2 is7 ip7) (L113_1 x_0 a_2 n_2 c_2 is7 ip7) h
    have z : S113_1 call (C113_2 N call (I113_1 N call n)) x_0 a_2 n_2 c_2 is7 ip7 h = I113_1 N call (n + 1) x_0 a_2 n_2 c_2 is7 ip7 h := by kernel_rfl
    exact g.trans (r.trans z)
theorem Z113_1 (N : Nat) (call : CT) (x_0 : List Nat) (a_2 : OA) (n_2 : Nat) (c_2 : Option Nat) (is7 : List Nat) (ip7 : Nat) (h : H) : (E113_1 N call) (T113_1 x_0 a_2 n_2 c_2 is7 ip7) (L113_1 x_0 a_2 n_2 c_2 is7 ip7) h = C113_1 N call x_0 a_2 n_2 c_2 is7 ip7 h := by
  have g : (E113_1 N call) (T113_1 x_0 a_2 n_2 c_2 is7 ip7) (L113_1 x_0 a_2 n_2 c_2 is7 ip7) h = iter (F113_1 N call) N (T113_1 x_0 a_2 n_2 c_2 is7 ip7) (L113_1 x_0 a_2 n_2 c_2 is7 ip7) h := by kernel_rfl
  have z : I113_1 N call N x_0 a_2 n_2 c_2 is7 ip7 h = C113_1 N call x_0 a_2 n_2 c_2 is7 ip7 h := by kernel_rfl
  exact g.trans ((Q113_1 N call N x_0 a_2 n_2 c_2 is7 ip7 h).trans z)
theorem W113_0 (N : Nat) (call : CT) : codeK Tryz.prog N call (bodyOf Tryz.f113) A113.an (resK Tryz.prog Tryz.f113.results.toList) (fun _ _ _ _ => none) (resK Tryz.prog Tryz.f113.results.toList) = (codeK Tryz.prog N call (c1 (bodyOf Tryz.f113)) A113.a0 (codeK Tryz.prog N call (c1 (c1 (c2 (bodyOf Tryz.f113)))) A113.a1 (fun T L h => (E113_1 N call) (keepT [0, 2, 7] T) (keepL [7] L) h) (fun _ _ _ _ => none) (resK Tryz.prog Tryz.f113.results.toList)) (fun _ _ _ _ => none) (resK Tryz.prog Tryz.f113.results.toList)) := by kernel_rfl
theorem P113_0 (N : Nat) (call : CT) (J1 : K3) (y0 : AV) (h : H) : bodyK Tryz.prog Tryz.f113 (codeK Tryz.prog N call (c1 (bodyOf Tryz.f113)) A113.a0 (codeK Tryz.prog N call (c1 (c1 (c2 (bodyOf Tryz.f113)))) A113.a1 (fun T L h => J1 (keepT [0, 2, 7] T) (keepL [7] L) h) (fun _ _ _ _ => none) (resK Tryz.prog Tryz.f113.results.toList)) (fun _ _ _ _ => none) (resK Tryz.prog Tryz.f113.results.toList)) [y0] h = S113_0 call (fun (x_0 : List Nat) (a_2 : OA) (n_2 : Nat) (c_2 : Option Nat) (is7 : List Nat) (ip7 : Nat) h => J1 (T113_1 x_0 a_2 n_2 c_2 is7 ip7) (L113_1 x_0 a_2 n_2 c_2 is7 ip7) h) y0 h := by kernel_rfl
theorem R113_0 (N : Nat) (call : CT) (y0 : AV) (h : H) : body Tryz.prog N call Tryz.f113 A113.an [y0] h = S113_0 call (fun (x_0 : List Nat) (a_2 : OA) (n_2 : Nat) (c_2 : Option Nat) (is7 : List Nat) (ip7 : Nat) h => (E113_1 N call) (T113_1 x_0 a_2 n_2 c_2 is7 ip7) (L113_1 x_0 a_2 n_2 c_2 is7 ip7) h) y0 h := (body_eq Tryz.prog N call Tryz.f113 A113.an [y0] h (W113_0 N call)).trans (P113_0 N call (E113_1 N call) y0 h)
theorem Z113 (N : Nat) (call : CT) (y0 : AV) (h : H) : body Tryz.prog N call Tryz.f113 A113.an [y0] h = S113 N call y0 h := by
  have e1 : (fun (x_0 : List Nat) (a_2 : OA) (n_2 : Nat) (c_2 : Option Nat) (is7 : List Nat) (ip7 : Nat) h => (E113_1 N call) (T113_1 x_0 a_2 n_2 c_2 is7 ip7) (L113_1 x_0 a_2 n_2 c_2 is7 ip7) h) = (C113_1 N call) := by
    funext x_0 a_2 n_2 c_2 is7 ip7 h
    exact Z113_1 N call x_0 a_2 n_2 c_2 is7 ip7 h
  have r := R113_0 N call y0 h
  rw [e1] at r
  have z : S113_0 call (C113_1 N call) y0 h = S113 N call y0 h := by kernel_rfl
  exact r.trans z
theorem V113 (N : Nat) (call : CT) (vs : List AV) (h : H) : body Tryz.prog N call Tryz.f113 A113.an vs h = row1 (fun y0 => S113 N call y0 h) vs := wrap1 (by kernel_rfl) (fun y0 => Z113 N call y0 h) vs
/- (*sibyl/lex.lexer).blank -/
def A114.a0 : Ann := .drawn [.op 0, .op 1, .op 2, .op 3, .op 4, .op 5, .op 6, .op 7, .op 8, .op 9]
def A114.a1 : Ann := .leaf
def A114.a2 : Ann := .leaf
def A114.a3 : Ann := .two A114.a1 A114.a2
def A114.a4 : Ann := .two A114.a0 A114.a3
def A114.a5 : Ann := .items [.op 0, .op 1, .op 2, .op 3]
def A114.a6 : Ann := .items [.op 0, .op 1, .op 2, .op 3, .op 4, .op 5, .op 6, .op 7]
def A114.a7 : Ann := .drawn [.op 0, .op 1, .op 2, .op 3, .op 4, .op 5, .op 6, .op 7, .op 8, .op 9, .op 10, .op 11, .op 12]
def A114.a8 : Ann := .items [.op 0, .op 1]
def A114.a9 : Ann := .leaf
def A114.a10 : Ann := .two A114.a8 A114.a9
def A114.a11 : Ann := .two A114.a7 A114.a10
def A114.a12 : Ann := .two A114.a6 A114.a11
def A114.a13 : Ann := .two A114.a5 A114.a12
def A114.a14 : Ann := .one A114.a13
def A114.a15 : Ann := .one A114.a14
def A114.a16 : Ann := .two A114.a4 A114.a15
def A114.a17 : Ann := .meet [0] [] A114.a16
def A114.an : Ann := .one A114.a17
def F114_1 (N : Nat) (call : CT) (self : K3) : K3 :=
  (codeK Tryz.prog N call (c1 (c1 (bodyOf Tryz.f114))) A114.a16 (fun T L h => self (keepT [0] T) (keepL [] L) h) (fun i T L h => match Nat.beq i 0 with | true => (resK Tryz.prog Tryz.f114.results.toList) T L h | false => (fun _ _ _ _ => none) i T L h) (resK Tryz.prog Tryz.f114.results.toList))
def E114_1 (N : Nat) (call : CT) : K3 := iter (F114_1 N call) N
def S114_1 (call : CT) (k1 : OA → H → R) (x_0 : OA) (h : H) : R :=
  onSome x_0 (fun b1 o2 => ldK h b1 (o2 + 3) 1 (one (fun v3 => onInt .i64 v3 (fun i4 => onSome x_0 (fun b5 o6 => ldK h b5 (o6 + 1) 1 (one (fun v7 => onSlice v7 (fun a8 n9 c10 => ifB (ltI i4 (Int.ofNat n9)) (bindR (call 130 [(.ptr x_0)] h) (fun v11 h12 => onInt .i64 v11 (fun i13 => ifB (eqI i13 (Int.ofNat 3)) (onSome x_0 (fun b14 o15 => ldK h12 b14 (o15 + 3) 1 (one (fun v16 => onInt .i64 v16 (fun i17 => onSome x_0 (fun b18 o19 => stK h12 b18 (o19 + 3) [(.int .i64 (wrapF .i64 (Int.add i17 (Int.ofNat 1))))] (fun h20 => k1 x_0 h20))))))) (onSome x_0 (fun b21 o22 => ldK h12 b21 (o22 + 1) 1 (one (fun v23 => onSlice v23 (fun a24 n25 c26 => onSome x_0 (fun b27 o28 => ldK h12 b27 (o28 + 3) 1 (one (fun v29 => onInt .i64 v29 (fun i30 => idxAddr 2 a24 n25 i30 (fun b31 o32 => ldK h12 b31 (o32 + 0) 1 (one (fun v33 => onInt .i32 v33 (fun i34 => ifB (eqI i34 (Int.ofNat 35)) (bindR (call 131 [(.ptr x_0)] h12) (fun v35 h36 => k1 x_0 h36)) (some (.tuple [], h12)))))))))))))))))) (some (.tuple [], h))))))))))
def S114_0 (call : CT) (k1 : OA → H → R) (y0 : AV) (h : H) : R :=
  onPtr y0 (fun p1 => k1 p1 h)
def B114_1 (N : Nat) (call : CT) (ih : OA → H → R) : OA → H → R := S114_1 call ih
def I114_1 (N : Nat) (call : CT) (n : Nat) : OA → H → R := Nat.rec (motive := fun _ => OA → H → R) (fun _ _ => none) (fun _ ih => B114_1 N call ih) n
def C114_1 (N : Nat) (call : CT) : OA → H → R := I114_1 N call N
def S114 (N : Nat) (call : CT) (y0 : AV) (h : H) : R := S114_0 call (C114_1 N call) y0 h
def T114_1 (x_0 : OA) : LF := [(some (.v (.ptr x_0))), oo, oo, oo, oo, oo, oo, oo, oo, oo, oo, oo, oo, oo, oo, oo, oo, oo, oo, oo, oo, oo, oo, oo, oo, oo, oo, oo, oo, oo, oo, oo, oo, oo, oo, oo, oo, oo]
def L114_1 (x_0 : OA) : LL := [oo, oo, oo, oo, oo, oo, oo, oo, oo, oo, oo, oo, oo, oo, oo, oo, oo, oo, oo, oo, oo, oo, oo, oo, oo, oo, oo, oo, oo, oo, oo, oo, oo, oo, oo, oo, oo, oo]
theorem R114_1 (N : Nat) (call : CT) (self : K3) (x_0 : OA) (h : H) : F114_1 N call self (T114_1 x_0) (L114_1 x_0) h = S114_1 call (fun (x_0 : OA) h => self (T114_1 x_0) (L114_1 x_0) h) x_0 h := by kernel_rfl
theorem Q114_1 (N : Nat) (call : CT) (n : Nat) : ∀ (x_0 : OA) (h : H), (iter (F114_1 N call) n) (T114_1 x_0) (L114_1 x_0) h = I114_1 N call n x_0 h := by
  induction n with
  | zero => intros; exact (iter_zero _ _ _ _).trans (by kernel_rfl)
  | succ n ih =>
    intro x_0 h
    have e0 : (fun (x_0 : OA) h => (iter (F114_1 N call) n) (T114_1 x_0) (L114_1 x_0) h) = (I114_1 N call n) := by funext x_0 h; exact ih x_0 h
    have r := R114_1 N call (iter (F114_1 N call) n) x_0 h
    rw [e0] at r
    have g := iter_succ (F114_1 N call) n (T114_1 x_0) (L114_1 x_0) h
    have z : S114_1 call (I114_1 N call n) x_0 h = I114_1 N call (n + 1) x_0 h := by kernel_rfl
    exact g.trans (r.trans z)
theorem Z114_1 (N : Nat) (call : CT) (x_0 : OA) (h : H) : (E114_1 N call) (T114_1 x_0) (L114_1 x_0) h = C114_1 N call x_0 h := by
  have g : (E114_1 N call) (T114_1 x_0) (L114_1 x_0) h = iter (F114_1 N call) N (T114_1 x_0) (L114_1 x_0) h := by kernel_rfl
  have z : I114_1 N call N x_0 h = C114_1 N call x_0 h := by kernel_rfl
  exact g.trans ((Q114_1 N call N x_0 h).trans z)
theorem R114_0 (N : Nat) (call : CT) (y0 : AV) (h : H) : body Tryz.prog N call Tryz.f114 A114.an [y0] h = S114_0 call (fun (x_0 : OA) h => (E114_1 N call) (T114_1 x_0) (L114_1 x_0) h) y0 h := by kernel_rfl
theorem Z114 (N : Nat) (call : CT) (y0 : AV) (h : H) : body Tryz.prog N call Tryz.f114 A114.an [y0] h = S114 N call y0 h := by
  have e1 : (fun (x_0 : OA) h => (E114_1 N call) (T114_1 x_0) (L114_1 x_0) h) = (C114_1 N call) := by
    funext x_0 h
    exact Z114_1 N call x_0 h
  have r := R114_0 N call y0 h
  rw [e1] at r
  have z : S114_0 call (C114_1 N call) y0 h = S114 N call y0 h := by kernel_rfl
  exact r.trans z
theorem V114 (N : Nat) (call : CT) (vs : List AV) (h : H) : body Tryz.prog N call Tryz.f114 A114.an vs h = row1 (fun y0 => S114 N call y0 h) vs := wrap1 (by kernel_rfl) (fun y0 => Z114 N call y0 h) vs
/- (*sibyl/lex.lexer).at -/
def A115.a0 : Ann := .items [.op 0]
def A115.a1 : Ann := .drawn [.op 0, .op 1, .op 2, .op 3, .op 4, .op 5, .op 6, .op 7, .op 8, .op 9, .op 10]
def A115.a2 : Ann := .drawn [.op 0, .op 1, .op 2, .op 3, .op 4, .op 5, .op 6, .op 7, .op 8, .op 9, .op 10, .op 11]
def A115.a3 : Ann := .leaf
def A115.a4 : Ann := .two A115.a2 A115.a3
def A115.a5 : Ann := .items [.op 0, .op 1, .op 2, .op 3, .op 4, .op 5]
def A115.a6 : Ann := .items [.op 0, .op 1, .op 2, .op 3, .op 4]
def A115.a7 : Ann := .leaf
def A115.a8 : Ann := .two A115.a6 A115.a7
def A115.a9 : Ann := .leaf
def A115.a10 : Ann := .two A115.a8 A115.a9
def A115.a11 : Ann := .two A115.a5 A115.a10
def A115.a12 : Ann := .two A115.a4 A115.a11
def A115.a13 : Ann := .two A115.a1 A115.a12
def A115.a14 : Ann := .one A115.a13
def A115.a15 : Ann := .items [.op 0, .op 1, .op 2, .op 3, .op 4, .op 5]
def A115.a16 : Ann := .leaf
def A115.a17 : Ann := .two A115.a15 A115.a16
def A115.a18 : Ann := .two A115.a14 A115.a17
def A115.an : Ann := .two A115.a0 A115.a18
def S115_0 (call : CT) (y0 : AV) (h : H) : R :=
  onPtr y0 (fun p1 => onSome p1 (fun b2 o3 => ldK h b2 (o3 + 3) 1 (one (fun v4 => onInt .i64 v4 (fun i5 => onSome p1 (fun b6 o7 => ldK h b6 (o7 + 1) 1 (one (fun v8 => onSlice v8 (fun a9 n10 c11 => ifB (ltI i5 (Int.ofNat n10)) (onSome p1 (fun b12 o13 => ldK h b12 (o13 + 1) 1 (one (fun v14 => onSlice v14 (fun a15 n16 c17 => onSome p1 (fun b18 o19 => ldK h b18 (o19 + 3) 1 (one (fun v20 => onInt .i64 v20 (fun i21 => idxAddr 2 a15 n16 i21 (fun b22 o23 => ldK h b22 (o23 + 1) 1 (one (fun v24 => onInt .i64 v24 (fun i25 => some ((.int .i64 i25), h)))))))))))))) (onSome p1 (fun b26 o27 => ldK h b26 (o27 + 2) 1 (one (fun v28 => onInt .i64 v28 (fun i29 => ifB (leI (Int.ofNat 0) i29) (onSome p1 (fun b30 o31 => ldK h b30 (o31 + 2) 1 (one (fun v32 => onInt .i64 v32 (fun i33 => some ((.int .i64 i33), h)))))) (onSome p1 (fun b34 o35 => ldK h b34 (o35 + 0) 1 (one (fun v36 => onStr v36 (fun s37 => some ((.int .i64 (Int.ofNat (s37).length)), h))))))))))))))))))))
def S115 (N : Nat) (call : CT) (y0 : AV) (h : H) : R := S115_0 call y0 h
theorem R115_0 (N : Nat) (call : CT) (y0 : AV) (h : H) : body Tryz.prog N call Tryz.f115 A115.an [y0] h = S115_0 call y0 h := by kernel_rfl
theorem Z115 (N : Nat) (call : CT) (y0 : AV) (h : H) : body Tryz.prog N call Tryz.f115 A115.an [y0] h = S115 N call y0 h := by
  have r := R115_0 N call y0 h
  have z : S115_0 call y0 h = S115 N call y0 h := by kernel_rfl
  exact r.trans z
theorem V115 (N : Nat) (call : CT) (vs : List AV) (h : H) : body Tryz.prog N call Tryz.f115 A115.an vs h = row1 (fun y0 => S115 N call y0 h) vs := wrap1 (by kernel_rfl) (fun y0 => Z115 N call y0 h) vs
/- (*sibyl/lex.lexer).token -/
def A116.a0 : Ann := .items [.opL 0, .op 1]
def A116.a1 : Ann := .items [.op 0, .op 1]
def A116.a2 : Ann := .items [.op 0, .op 1]
def A116.a3 : Ann := .items [.op 0, .op 1, .op 2, .op 3, .op 4, .op 5]
def A116.a4 : Ann := .leaf
def A116.a5 : Ann := .two A116.a3 A116.a4
def A116.a6 : Ann := .items [.op 0, .op 1]
def A116.a7 : Ann := .items [.op 0, .op 1, .op 2, .op 3, .op 4, .op 5]
def A116.a8 : Ann := .leaf
def A116.a9 : Ann := .two A116.a7 A116.a8
def A116.a10 : Ann := .items [.op 0, .op 1]
def A116.a11 : Ann := .items [.op 0, .op 1, .op 2, .op 3, .op 4, .op 5]
def A116.a12 : Ann := .leaf
def A116.a13 : Ann := .two A116.a11 A116.a12
def A116.a14 : Ann := .leaf
def A116.a15 : Ann := .two A116.a13 A116.a14
def A116.a16 : Ann := .two A116.a10 A116.a15
def A116.a17 : Ann := .two A116.a9 A116.a16
def A116.a18 : Ann := .two A116.a6 A116.a17
def A116.a19 : Ann := .two A116.a5 A116.a18
def A116.a20 : Ann := .two A116.a2 A116.a19
def A116.a21 : Ann := .one A116.a20
def A116.a22 : Ann := .two A116.a1 A116.a21
def A116.a23 : Ann := .items [.op 0, .op 1, .op 2]
def A116.a24 : Ann := .leaf
def A116.a25 : Ann := .two A116.a23 A116.a24
def A116.a26 : Ann := .two A116.a22 A116.a25
def A116.an : Ann := .two A116.a0 A116.a26
def S116_0 (call : CT) (y0 : AV) (h : H) : R :=
  onPtr y0 (fun p1 => bindR (call 130 [(.ptr p1)] h) (fun v2 h3 => onInt .i64 v2 (fun i4 => ifB (eqI i4 (Int.ofNat 1)) (bindR (call 132 [(.ptr p1)] h3) (fun v5 h6 => onTuple v5 0 (fun v7 => onAgR v7 (fun l12 => row4 (fun x8 x9 x10 x11 => onTuple v5 1 (fun v13 => onBool v13 (fun e14 => some (.tuple [(.agg [x8, x9, x10, x11]), (.bool e14)], h6)))) l12)))) (ifB (eqI i4 (Int.ofNat 2)) (bindR (call 133 [(.ptr p1)] h3) (fun v15 h16 => onTuple v15 0 (fun v17 => onAgR v17 (fun l22 => row4 (fun x18 x19 x20 x21 => onTuple v15 1 (fun v23 => onBool v23 (fun e24 => some (.tuple [(.agg [x18, x19, x20, x21]), (.bool e24)], h16)))) l22)))) (ifB (eqI i4 (Int.ofNat 4)) (bindR (call 134 [(.ptr p1)] h3) (fun v25 h26 => onTuple v25 0 (fun v27 => onAgR v27 (fun l32 => row4 (fun x28 x29 x30 x31 => onTuple v25 1 (fun v33 => onBool v33 (fun e34 => some (.tuple [(.agg [x28, x29, x30, x31]), (.bool e34)], h26)))) l32)))) (some (.tuple [(.agg [(.int .i64 (Int.ofNat 0)), (.str []), (.int .i64 (Int.ofNat 0)), (.int .i64 (Int.ofNat 0))]), (.bool false)], h3)))))))
def S116 (N : Nat) (call : CT) (y0 : AV) (h : H) : R := S116_0 call y0 h
theorem R116_0 (N : Nat) (call : CT) (y0 : AV) (h : H) : body Tryz.prog N call Tryz.f116 A116.an [y0] h = S116_0 call y0 h := by kernel_rfl
theorem Z116 (N : Nat) (call : CT) (y0 : AV) (h : H) : body Tryz.prog N call Tryz.f116 A116.an [y0] h = S116 N call y0 h := by
  have r := R116_0 N call y0 h
  have z : S116_0 call y0 h = S116 N call y0 h := by kernel_rfl
  exact r.trans z
theorem V116 (N : Nat) (call : CT) (vs : List AV) (h : H) : body Tryz.prog N call Tryz.f116 A116.an vs h = row1 (fun y0 => S116 N call y0 h) vs := wrap1 (by kernel_rfl) (fun y0 => Z116 N call y0 h) vs
/- sibyl/tree.depth -/
def A117.a0 : Ann := .items [.opL 0, .op 1]
def A117.a1 : Ann := .items [.op 0]
def A117.a2 : Ann := .items [.op 0, .op 1]
def A117.a3 : Ann := .items [.op 0, .op 1, .op 2, .op 3]
def A117.a4 : Ann := .items [.op 0]
def A117.a5 : Ann := .leaf
def A117.a6 : Ann := .leaf
def A117.a7 : Ann := .two A117.a5 A117.a6
def A117.a8 : Ann := .items [.op 0, .op 1, .opL 2, .op 3]
def A117.a9 : Ann := .items [.op 0, .op 1, .op 2, .op 3, .op 4, .op 5, .op 6]
def A117.a10 : Ann := .two A117.a8 A117.a9
def A117.a11 : Ann := .one A117.a10
def A117.a12 : Ann := .items [.op 0, .op 1]
def A117.a13 : Ann := .two A117.a11 A117.a12
def A117.a14 : Ann := .two A117.a7 A117.a13
def A117.a15 : Ann := .two A117.a4 A117.a14
def A117.a16 : Ann := .meet [1, 5, 11, 12, 13] [] A117.a15
def A117.a17 : Ann := .one A117.a16
def A117.a18 : Ann := .two A117.a3 A117.a17
def A117.a19 : Ann := .leaf
def A117.a20 : Ann := .two A117.a18 A117.a19
def A117.a21 : Ann := .two A117.a2 A117.a20
def A117.a22 : Ann := .items [.op 0, .op 1, .op 2]
def A117.a23 : Ann := .leaf
def A117.a24 : Ann := .two A117.a22 A117.a23
def A117.a25 : Ann := .join [5] [] A117.a21 A117.a24
def A117.a26 : Ann := .two A117.a1 A117.a25
def A117.an : Ann := .two A117.a0 A117.a26
def E117_1 (N : Nat) (call : CT) : K3 :=
  (codeK Tryz.prog N call (c2 (c2 (c2 (bodyOf Tryz.f117)))) A117.a24 (resK Tryz.prog Tryz.f117.results.toList) (fun _ _ _ _ => none) (resK Tryz.prog Tryz.f117.results.toList))
def F117_2 (N : Nat) (call : CT) (self : K3) : K3 :=
  (codeK Tryz.prog N call (c1 (c1 (c2 (c1 (c2 (c1 (c2 (c2 (bodyOf Tryz.f117))))))))) A117.a15 (fun T L h => self (keepT [1, 5, 11, 12, 13] T) (keepL [] L) h) (fun i T L h => match Nat.beq i 0 with | true => (fun T L h => (E117_1 N call) (keepT [5] T) (keepL [] L) h) T L h | false => (fun _ _ _ _ => none) i T L h) (resK Tryz.prog Tryz.f117.results.toList))
def E117_2 (N : Nat) (call : CT) : K3 := iter (F117_2 N call) N
def S117_1 (call : CT) (x_5 : Int) (h : H) : R :=
  some ((.int .i64 (wrapF .i64 (Int.add x_5 (Int.ofNat 1)))), h)
def S117_2 (call : CT) (k1 : Int → H → R) (k2 : Int → Int → OA → Nat → Option Nat → Int → Int → H → R) (x_1 x_5 : Int) (a_11 : OA) (n_11 : Nat) (c_11 : Option Nat) (x_12 x_13 : Int) (h : H) : R :=
  ifB (ltI x_13 x_12) (idxAddr 5 a_11 n_11 x_13 (fun b1 o2 => ldK h b1 o2 5 (fun l3 => row5 (fun x4 x5 x6 x7 x8 => bindR (call 117 [(.agg [x4, x5, x6, x7, x8]), (.int .i64 (wrapF .i64 (Int.sub x_1 (Int.ofNat 1))))] h) (fun v9 h10 => onInt .i64 v9 (fun i11 => k2 x_1 (maxI x_5 i11) a_11 n_11 c_11 x_12 (wrapF .i64 (Int.add x_13 (Int.ofNat 1))) h10))) l3))) (k1 x_5 h)
def S117_0 (call : CT) (k1 : Int → H → R) (k2 : Int → Int → OA → Nat → Option Nat → Int → Int → H → R) (y0 y1 : AV) (h : H) : R :=
  onAgR y0 (fun l6 => row5 (fun x1 x2 x3 x4 x5 => onInt .i64 y1 (fun i7 => ifB (ltI (Int.ofNat 1) i7) (onSlice x5 (fun a8 n9 c10 => k2 i7 (Int.ofNat 0) a8 n9 c10 (Int.ofNat n9) (Int.ofNat 0) h)) (k1 (Int.ofNat 0) h))) l6)
def C117_1 (N : Nat) (call : CT) : Int → H → R := S117_1 call
def B117_2 (N : Nat) (call : CT) (ih : Int → Int → OA → Nat → Option Nat → Int → Int → H → R) : Int → Int → OA → Nat → Option Nat → Int → Int → H → R := S117_2 call (C117_1 N call) ih
def I117_2 (N : Nat) (call : CT) (n : Nat) : Int → Int → OA → Nat → Option Nat → Int → Int → H → R := Nat.rec (motive := fun _ => Int → Int → OA → Nat → Option Nat → Int → Int → H → R) (fun _ _ _ _ _ _ _ _ => none) (fun _ ih => B117_2 N call ih) n
def C117_2 (N : Nat) (call : CT) : Int → Int → OA → Nat → Option Nat → Int → Int → H → R := I117_2 N call N
def S117 (N : Nat) (call : CT) (y0 y1 : AV) (h : H) : R := S117_0 call (C117_1 N call) (C117_2 N call) y0 y1 h
def T117_1 (x_5 : Int) : LF := [oo, oo, oo, oo, oo, (some (.v (.int .i64 x_5))), oo, oo, oo, oo, oo, oo, oo, oo, oo, oo, oo, oo, oo, oo, oo, oo, oo, oo, oo, oo]
def L117_1 (x_5 : Int) : LL := [oo, oo, oo, oo, oo, oo, oo, oo, oo, oo, oo, oo, oo, oo, oo, oo, oo, oo, oo, oo, oo, oo, oo, oo, oo, oo]
def T117_2 (x_1 x_5 : Int) (a_11 : OA) (n_11 : Nat) (c_11 : Option Nat) (x_12 x_13 : Int) : LF := [none, (some (.v (.int .i64 x_1))), oo, oo, oo, (some (.v (.int .i64 x_5))), oo, oo, oo, oo, oo, (some (.v (.slice a_11 n_11 c_11))), (some (.v (.int .i64 x_12))), (some (.v (.int .i64 x_13))), oo, oo, oo, oo, oo, oo, oo, oo, oo, oo, oo, oo]
def L117_2 (x_1 x_5 : Int) (a_11 : OA) (n_11 : Nat) (c_11 : Option Nat) (x_12 x_13 : Int) : LL := [oo, oo, oo, oo, oo, oo, oo, oo, oo, oo, oo, oo, oo, oo, oo, oo, oo, oo, oo, oo, oo, oo, oo, oo, oo, oo]
theorem R117_1 (N : Nat) (call : CT) (x_5 : Int) (h : H) : E117_1 N call (T117_1 x_5) (L117_1 x_5) h = S117_1 call x_5 h := by kernel_rfl
theorem Z117_1 (N : Nat) (call : CT) (x_5 : Int) (h : H) : E117_1 N call (T117_1 x_5) (L117_1 x_5) h = C117_1 N call x_5 h := by
  have r := R117_1 N call x_5 h
  have z : S117_1 call x_5 h = C117_1 N call x_5 h := by kernel_rfl
  exact r.trans z
theorem R117_2 (N : Nat) (call : CT) (self : K3) (x_1 x_5 : Int) (a_11 : OA) (n_11 : Nat) (c_11 : Option Nat) (x_12 x_13 : Int) (h : H) : F117_2 N call self (T117_2 x_1 x_5 a_11 n_11 c_11 x_12 x_13) (L117_2 x_1 x_5 a_11 n_11 c_11 x_12 x_13) h = S117_2 call (fun (x_5 : Int) h => (E117_1 N call) (T117_1 x_5) (L117_1 x_5) h) (fun (x_1 x_5 : Int) (a_11 : OA) (n_11 : Nat) (c_11 : Option Nat) (x_12 x_13 : Int) h => self (T117_2 x_1 x_5 a_11 n_11 c_11 x_12 x_13) (L117_2 x_1 x_5 a_11 n_11 c_11 x_12 x_13) h) x_1 x_5 a_11 n_11 c_11 x_12 x_13 h := by kernel_rfl
theorem Q117_2 (N : Nat) (call : CT) (n : Nat) : ∀ (x_1 x_5 : Int) (a_11 : OA) (n_11 : Nat) (c_11 : Option Nat) (x_12 x_13 : Int) (h : H), (iter (F117_2 N call) n) (T117_2 x_1 x_5 a_11 n_11 c_11 x_12 x_13) (L117_2 x_1 x_5 a_11 n_11 c_11 x_12 x_13) h = I117_2 N call n x_1 x_5 a_11 n_11 c_11 x_12 x_13 h := by
  induction n with
  | zero => intros; exact (iter_zero _ _ _ _).trans (by kernel_rfl)
  | succ n ih =>
    intro x_1 x_5 a_11 n_11 c_11 x_12 x_13 h
    have e0 : (fun (x_1 x_5 : Int) (a_11 : OA) (n_11 : Nat) (c_11 : Option Nat) (x_12 x_13 : Int) h => (iter (F117_2 N call) n) (T117_2 x_1 x_5 a_11 n_11 c_11 x_12 x_13) (L117_2 x_1 x_5 a_11 n_11 c_11 x_12 x_13) h) = (I117_2 N call n) := by funext x_1 x_5 a_11 n_11 c_11 x_12 x_13 h; exact ih x_1 x_5 a_11 n_11 c_11 x_12 x_13 h
    have e1 : (fun (x_5 : Int) h => (E117_1 N call) (T117_1 x_5) (L117_1 x_5) h) = (C117_1 N call) := by
      funext x_5 h
      have q := Z117_1 N call x_5 h
      exact q
    have r := R117_2 N call (iter (F117_2 N call) n) x_1 x_5 a_11 n_11 c_11 x_12 x_13 h
    rw [e1, e0] at r
    have g := iter_succ (F117_2 N call) n (T117_2 x_1 x_5 a_11 n_11 c_11 x_12 x_13) (L117_2 x_1 x_5 a_11 n_11 c_11 x_12 x_13) h
    have z : S117_2 call (C117_1 N call) (I117_2 N call n) x_1 x_5 a_11 n_11 c_11 x_12 x_13 h = I117_2 N call (n + 1) x_1 x_5 a_11 n_11 c_11 x_12 x_13 h := by kernel_rfl
    exact g.trans (r.trans z)
theorem Z117_2 (N : Nat) (call : CT) (x_1 x_5 : Int) (a_11 : OA) (n_11 : Nat) (c_11 : Option Nat) (x_12 x_13 : Int) (h : H) : (E117_2 N call) (T117_2 x_1 x_5 a_11 n_11 c_11 x_12 x_13) (L117_2 x_1 x_5 a_11 n_11 c_11 x_12 x_13) h = C117_2 N call x_1 x_5 a_11 n_11 c_11 x_12 x_13 h := by
  have g : (E117_2 N call) (T117_2 x_1 x_5 a_11 n_11 c_11 x_12 x_13) (L117_2 x_1 x_5 a_11 n_11 c_11 x_12 x_13) h = iter (F117_2 N call) N (T117_2 x_1 x_5 a_11 n_11 c_11 x_12 x_13) (L117_2 x_1 x_5 a_11 n_11 c_11 x_12 x_13) h := by kernel_rfl
  have z : I117_2 N call N x_1 x_5 a_11 n_11 c_11 x_12 x_13 h = C117_2 N call x_1 x_5 a_11 n_11 c_11 x_12 x_13 h := by kernel_rfl
  exact g.trans ((Q117_2 N call N x_1 x_5 a_11 n_11 c_11 x_12 x_13 h).trans z)
theorem R117_0 (N : Nat) (call : CT) (y0 y1 : AV) (h : H) : body Tryz.prog N call Tryz.f117 A117.an [y0, y1] h = S117_0 call (fun (x_5 : Int) h => (E117_1 N call) (T117_1 x_5) (L117_1 x_5) h) (fun (x_1 x_5 : Int) (a_11 : OA) (n_11 : Nat) (c_11 : Option Nat) (x_12 x_13 : Int) h => (E117_2 N call) (T117_2 x_1 x_5 a_11 n_11 c_11 x_12 x_13) (L117_2 x_1 x_5 a_11 n_11 c_11 x_12 x_13) h) y0 y1 h := by kernel_rfl
theorem Z117 (N : Nat) (call : CT) (y0 y1 : AV) (h : H) : body Tryz.prog N call Tryz.f117 A117.an [y0, y1] h = S117 N call y0 y1 h := by
  have e1 : (fun (x_5 : Int) h => (E117_1 N call) (T117_1 x_5) (L117_1 x_5) h) = (C117_1 N call) := by
    funext x_5 h
    exact Z117_1 N call x_5 h
  have e2 : (fun (x_1 x_5 : Int) (a_11 : OA) (n_11 : Nat) (c_11 : Option Nat) (x_12 x_13 : Int) h => (E117_2 N call) (T117_2 x_1 x_5 a_11 n_11 c_11 x_12 x_13) (L117_2 x_1 x_5 a_11 n_11 c_11 x_12 x_13) h) = (C117_2 N call) := by
    funext x_1 x_5 a_11 n_11 c_11 x_12 x_13 h
    exact Z117_2 N call x_1 x_5 a_11 n_11 c_11 x_12 x_13 h
  have r := R117_0 N call y0 y1 h
  rw [e1, e2] at r
  have z : S117_0 call (C117_1 N call) (C117_2 N call) y0 y1 h = S117 N call y0 y1 h := by kernel_rfl
  exact r.trans z
theorem V117 (N : Nat) (call : CT) (vs : List AV) (h : H) : body Tryz.prog N call Tryz.f117 A117.an vs h = row2 (fun y0 y1 => S117 N call y0 y1 h) vs := wrap2 (by kernel_rfl) (fun y0 y1 => Z117 N call y0 y1 h) vs
/- slices.ContainsFunc[[]sibyl/api.Node,sibyl/api.Node] -/
def A118.a0 : Ann := .items [.op 0]
def A118.a1 : Ann := .items [.op 0, .op 1, .op 2, .op 3, .op 4]
def A118.a2 : Ann := .leaf
def A118.a3 : Ann := .two A118.a1 A118.a2
def A118.an : Ann := .two A118.a0 A118.a3
def S118_0 (call : CT) (y0 y1 : AV) (h : H) : R :=
  onSlice y0 (fun a1 n2 c3 => bindR (call 135 [(.slice a1 n2 c3), y1] h) (fun v4 h5 => onInt .i64 v4 (fun i6 => some ((.bool (leI (Int.ofNat 0) i6)), h5))))
def S118 (N : Nat) (call : CT) (y0 y1 : AV) (h : H) : R := S118_0 call y0 y1 h
theorem R118_0 (N : Nat) (call : CT) (y0 y1 : AV) (h : H) : body Tryz.prog N call Tryz.f118 A118.an [y0, y1] h = S118_0 call y0 y1 h := by kernel_rfl
theorem Z118 (N : Nat) (call : CT) (y0 y1 : AV) (h : H) : body Tryz.prog N call Tryz.f118 A118.an [y0, y1] h = S118 N call y0 y1 h := by
  have r := R118_0 N call y0 y1 h
  have z : S118_0 call y0 y1 h = S118 N call y0 y1 h := by kernel_rfl
  exact r.trans z
theorem V118 (N : Nat) (call : CT) (vs : List AV) (h : H) : body Tryz.prog N call Tryz.f118 A118.an vs h = row2 (fun y0 y1 => S118 N call y0 y1 h) vs := wrap2 (by kernel_rfl) (fun y0 y1 => Z118 N call y0 y1 h) vs
/- sibyl/tree.all$1 -/
def A119.a0 : Ann := .items [.opL 0, .op 1]
def A119.a1 : Ann := .items [.op 0, .op 1, .op 2, .op 3, .op 4]
def A119.a2 : Ann := .leaf
def A119.a3 : Ann := .two A119.a1 A119.a2
def A119.an : Ann := .two A119.a0 A119.a3
def S119_0 (call : CT) (y0 y1 : AV) (h : H) : R :=
  onAgR y0 (fun l6 => row5 (fun x1 x2 x3 x4 x5 => onPtr y1 (fun p7 => onSome p7 (fun b8 o9 => ldK h b8 o9 1 (one (fun v10 => onFn v10 (fun g13 q14 q15 => bindR (call g13 (q14 ++ [(.agg [x1, x2, x3, x4, x5])] ++ q15) h) (fun v11 h12 => onBool v11 (fun e16 => some ((.bool (!e16)), h12))))))))) l6)
def S119 (N : Nat) (call : CT) (y0 y1 : AV) (h : H) : R := S119_0 call y0 y1 h
theorem R119_0 (N : Nat) (call : CT) (y0 y1 : AV) (h : H) : body Tryz.prog N call Tryz.f119 A119.an [y0, y1] h = S119_0 call y0 y1 h := by kernel_rfl
theorem Z119 (N : Nat) (call : CT) (y0 y1 : AV) (h : H) : body Tryz.prog N call Tryz.f119 A119.an [y0, y1] h = S119 N call y0 y1 h := by
  have r := R119_0 N call y0 y1 h
  have z : S119_0 call y0 y1 h = S119 N call y0 y1 h := by kernel_rfl
  exact r.trans z
theorem V119 (N : Nat) (call : CT) (vs : List AV) (h : H) : body Tryz.prog N call Tryz.f119 A119.an vs h = row2 (fun y0 y1 => S119 N call y0 y1 h) vs := wrap2 (by kernel_rfl) (fun y0 y1 => Z119 N call y0 y1 h) vs
/- (sibyl/free.put).term -/
def A122.a0 : Ann := .items [.opL 0, .opL 1, .op 2]
def A122.a1 : Ann := .items [.op 0, .op 1, .op 2, .op 3, .op 4]
def A122.a2 : Ann := .items [.op 0, .op 1, .op 2, .split 13, .op 3, .op 4, .op 5, .op 6, .op 7, .op 8]
def A122.a3 : Ann := .items [.op 0, .op 1, .op 2]
def A122.a4 : Ann := .leaf
def A122.a5 : Ann := .two A122.a3 A122.a4
def A122.a6 : Ann := .leaf
def A122.a7 : Ann := .two A122.a5 A122.a6
def A122.a8 : Ann := .join [2, 4, 6, 19] [2, 4] A122.a2 A122.a7
def A122.a9 : Ann := .items [.op 0, .op 1, .op 2, .op 3, .op 4, .op 5, .op 6]
def A122.a10 : Ann := .leaf
def A122.a11 : Ann := .two A122.a9 A122.a10
def A122.a12 : Ann := .join [2, 4, 6] [2, 4] A122.a8 A122.a11
def A122.a13 : Ann := .two A122.a1 A122.a12
def A122.an : Ann := .two A122.a0 A122.a13
def E122_1 (N : Nat) (call : CT) : K3 :=
  (codeK Tryz.prog N call (c2 (c2 (c2 (bodyOf Tryz.f122)))) A122.a11 (resK Tryz.prog Tryz.f122.results.toList) (fun _ _ _ _ => none) (resK Tryz.prog Tryz.f122.results.toList))
def E122_2 (N : Nat) (call : CT) : K3 :=
  (codeK Tryz.prog N call (c2 (c1 (c2 (c2 (bodyOf Tryz.f122))))) A122.a7 (fun T L h => (E122_1 N call) (keepT [2, 4, 6] T) (keepL [2, 4] L) h) (fun _ _ _ _ => none) (resK Tryz.prog Tryz.f122.results.toList))
def S122_1 (call : CT) (x_6 : Int) (l2_0 l2_1 : AV) (l4_0 l4_1 : AV) (l4_2 l4_3 l4_4 : AV) (h : H) : R :=
  onSlice l2_1 (fun a1 n2 c3 => idxAddr 5 a1 n2 x_6 (fun b4 o5 => ldK h b4 o5 5 (fun l6 => row5 (fun x7 x8 x9 x10 x11 => some (.tuple [(.agg [x7, x8, x9, x10, x11]), (.bool true)], h)) l6)))
def S122_2 (call : CT) (k1 : Int → AV → AV → AV → AV → AV → AV → AV → H → R) (x_6 : Int) (x_19 : Bool) (l2_0 l2_1 : AV) (l4_0 l4_1 : AV) (l4_2 l4_3 l4_4 : AV) (h : H) : R :=
  ifB x_19 (some (.tuple [(.agg [(.str []), (.str []), (.int .i64 (Int.ofNat 0)), (.int .i64 (Int.ofNat 0)), (.slice none 0 (some 0))]), (.bool false)], h)) (k1 x_6 l2_0 l2_1 l4_0 l4_1 l4_2 l4_3 l4_4 h)
def S122_0 (call : CT) (k2 : Int → Bool → AV → AV → AV → AV → AV → AV → AV → H → R) (y0 y1 : AV) (h : H) : R :=
  onAgR y0 (fun l3 => row2 (fun x1 x2 => onStr y1 (fun s4 => onSlice x1 (fun a5 n6 c7 => bindR (call 136 [(.slice a5 n6 c7), (.str s4)] h) (fun v8 h9 => onInt .i64 v8 (fun i10 => ifB (ltI i10 (Int.ofNat 0)) (k2 i10 true x1 x2 (.str []) (.str []) (.int .i64 (Int.ofNat 0)) (.int .i64 (Int.ofNat 0)) (.slice none 0 (some 0)) h9) (onSlice x2 (fun a11 n12 c13 => k2 i10 (leI (Int.ofNat n12) i10) x1 x2 (.str []) (.str []) (.int .i64 (Int.ofNat 0)) (.int .i64 (Int.ofNat 0)) (.slice none 0 (some 0)) h9))))))) l3)
def C122_1 (N : Nat) (call : CT) : Int → AV → AV → AV → AV → AV → AV → AV → H → R := S122_1 call
def C122_2 (N : Nat) (call : CT) : Int → Bool → AV → AV → AV → AV → AV → AV → AV → H → R := S122_2 call (C122_1 N call)
def S122 (N : Nat) (call : CT) (y0 y1 : AV) (h : H) : R := S122_0 call (C122_2 N call) y0 y1 h
def T122_1 (x_6 : Int) (l2_0 l2_1 : AV) (l4_0 l4_1 : AV) (l4_2 l4_3 l4_4 : AV) : LF := [none, none, (some (.lptr 2 0)), none, (some (.lptr 4 0)), none, (some (.v (.int .i64 x_6))), oo, oo, oo, oo, oo, oo, oo, oo, oo, oo, oo, oo, oo, oo, oo, oo, oo, oo, oo]
def L122_1 (x_6 : Int) (l2_0 l2_1 : AV) (l4_0 l4_1 : AV) (l4_2 l4_3 l4_4 : AV) : LL := [none, none, (some (.cells [l2_0, l2_1])), none, (some (.cells [l4_0, l4_1, l4_2, l4_3, l4_4])), oo, oo, oo, oo, oo, oo, oo, oo, oo, oo, oo, oo, oo, oo, oo, oo, oo, oo, oo, oo, oo]
def T122_2 (x_6 : Int) (x_19 : Bool) (l2_0 l2_1 : AV) (l4_0 l4_1 : AV) (l4_2 l4_3 l4_4 : AV) : LF := [none, none, (some (.lptr 2 0)), none, (some (.lptr 4 0)), none, (some (.v (.int .i64 x_6))), oo, oo, oo, oo, oo, oo, oo, oo, oo, oo, oo, oo, (some (.v (.bool x_19))), oo, oo, oo, oo, oo, oo]
def L122_2 (x_6 : Int) (x_19 : Bool) (l2_0 l2_1 : AV) (l4_0 l4_1 : AV) (l4_2 l4_3 l4_4 : AV) : LL := [none, none, (some (.cells [l2_0, l2_1])), none, (some (.cells [l4_0, l4_1, l4_2, l4_3, l4_4])), oo, oo, oo, oo, oo, oo, oo, oo, oo, oo, oo, oo, oo, oo, oo, oo, oo, oo, oo, oo, oo]
theorem R122_1 (N : Nat) (call : CT) (x_6 : Int) (l2_0 l2_1 : AV) (l4_0 l4_1 : AV) (l4_2 l4_3 l4_4 : AV) (h : H) : E122_1 N call (T122_1 x_6 l2_0 l2_1 l4_0 l4_1 l4_2 l4_3 l4_4) (L122_1 x_6 l2_0 l2_1 l4_0 l4_1 l4_2 l4_3 l4_4) h = S122_1 call x_6 l2_0 l2_1 l4_0 l4_1 l4_2 l4_3 l4_4 h := by kernel_rfl
theorem Z122_1 (N : Nat) (call : CT) (x_6 : Int) (l2_0 l2_1 : AV) (l4_0 l4_1 : AV) (l4_2 l4_3 l4_4 : AV) (h : H) : E122_1 N call (T122_1 x_6 l2_0 l2_1 l4_0 l4_1 l4_2 l4_3 l4_4) (L122_1 x_6 l2_0 l2_1 l4_0 l4_1 l4_2 l4_3 l4_4) h = C122_1 N call x_6 l2_0 l2_1 l4_0 l4_1 l4_2 l4_3 l4_4 h := by
  have r := R122_1 N call x_6 l2_0 l2_1 l4_0 l4_1 l4_2 l4_3 l4_4 h
  have z : S122_1 call x_6 l2_0 l2_1 l4_0 l4_1 l4_2 l4_3 l4_4 h = C122_1 N call x_6 l2_0 l2_1 l4_0 l4_1 l4_2 l4_3 l4_4 h := by kernel_rfl
  exact r.trans z
theorem R122_2 (N : Nat) (call : CT) (x_6 : Int) (x_19 : Bool) (l2_0 l2_1 : AV) (l4_0 l4_1 : AV) (l4_2 l4_3 l4_4 : AV) (h : H) : E122_2 N call (T122_2 x_6 x_19 l2_0 l2_1 l4_0 l4_1 l4_2 l4_3 l4_4) (L122_2 x_6 x_19 l2_0 l2_1 l4_0 l4_1 l4_2 l4_3 l4_4) h = S122_2 call (fun (x_6 : Int) (l2_0 l2_1 : AV) (l4_0 l4_1 : AV) (l4_2 l4_3 l4_4 : AV) h => (E122_1 N call) (T122_1 x_6 l2_0 l2_1 l4_0 l4_1 l4_2 l4_3 l4_4) (L122_1 x_6 l2_0 l2_1 l4_0 l4_1 l4_2 l4_3 l4_4) h) x_6 x_19 l2_0 l2_1 l4_0 l4_1 l4_2 l4_3 l4_4 h := by kernel_rfl
theorem Z122_2 (N : Nat) (call : CT) (x_6 : Int) (x_19 : Bool) (l2_0 l2_1 : AV) (l4_0 l4_1 : AV) (l4_2 l4_3 l4_4 : AV) (h : H) : E122_2 N call (T122_2 x_6 x_19 l2_0 l2_1 l4_0 l4_1 l4_2 l4_3 l4_4) (L122_2 x_6 x_19 l2_0 l2_1 l4_0 l4_1 l4_2 l4_3 l4_4) h = C122_2 N call x_6 x_19 l2_0 l2_1 l4_0 l4_1 l4_2 l4_3 l4_4 h := by
  have e1 : (fun (x_6 : Int) (l2_0 l2_1 : AV) (l4_0 l4_1 : AV) (l4_2 l4_3 l4_4 : AV) h => (E122_1 N call) (T122_1 x_6 l2_0 l2_1 l4_0 l4_1 l4_2 l4_3 l4_4) (L122_1 x_6 l2_0 l2_1 l4_0 l4_1 l4_2 l4_3 l4_4) h) = (C122_1 N call) := by
    funext x_6 l2_0 l2_1 l4_0 l4_1 l4_2 l4_3 l4_4 h
    exact Z122_1 N call x_6 l2_0 l2_1 l4_0 l4_1 l4_2 l4_3 l4_4 h
  have r := R122_2 N call x_6 x_19 l2_0 l2_1 l4_0 l4_1 l4_2 l4_3 l4_4 h
  rw [e1] at r
  have z : S122_2 call (C122_1 N call) x_6 x_19 l2_0 l2_1 l4_0 l4_1 l4_2 l4_3 l4_4 h = C122_2 N call x_6 x_19 l2_0 l2_1 l4_0 l4_1 l4_2 l4_3 l4_4 h := by kernel_rfl
  exact r.trans z
theorem R122_0 (N : Nat) (call : CT) (y0 y1 : AV) (h : H) : body Tryz.prog N call Tryz.f122 A122.an [y0, y1] h = S122_0 call (fun (x_6 : Int) (x_19 : Bool) (l2_0 l2_1 : AV) (l4_0 l4_1 : AV) (l4_2 l4_3 l4_4 : AV) h => (E122_2 N call) (T122_2 x_6 x_19 l2_0 l2_1 l4_0 l4_1 l4_2 l4_3 l4_4) (L122_2 x_6 x_19 l2_0 l2_1 l4_0 l4_1 l4_2 l4_3 l4_4) h) y0 y1 h := by kernel_rfl
theorem Z122 (N : Nat) (call : CT) (y0 y1 : AV) (h : H) : body Tryz.prog N call Tryz.f122 A122.an [y0, y1] h = S122 N call y0 y1 h := by
  have e2 : (fun (x_6 : Int) (x_19 : Bool) (l2_0 l2_1 : AV) (l4_0 l4_1 : AV) (l4_2 l4_3 l4_4 : AV) h => (E122_2 N call) (T122_2 x_6 x_19 l2_0 l2_1 l4_0 l4_1 l4_2 l4_3 l4_4) (L122_2 x_6 x_19 l2_0 l2_1 l4_0 l4_1 l4_2 l4_3 l4_4) h) = (C122_2 N call) := by
    funext x_6 x_19 l2_0 l2_1 l4_0 l4_1 l4_2 l4_3 l4_4 h
    exact Z122_2 N call x_6 x_19 l2_0 l2_1 l4_0 l4_1 l4_2 l4_3 l4_4 h
  have r := R122_0 N call y0 y1 h
  rw [e2] at r
  have z : S122_0 call (C122_2 N call) y0 y1 h = S122 N call y0 y1 h := by kernel_rfl
  exact r.trans z
theorem V122 (N : Nat) (call : CT) (vs : List AV) (h : H) : body Tryz.prog N call Tryz.f122 A122.an vs h = row2 (fun y0 y1 => S122 N call y0 y1 h) vs := wrap2 (by kernel_rfl) (fun y0 y1 => Z122 N call y0 y1 h) vs
/- sibyl/free.copied -/
def A123.a0 : Ann := .items [.opL 0, .opL 1]
def A123.a1 : Ann := .items [.op 0]
def A123.a2 : Ann := .items [.op 0, .op 1, .op 2, .op 3]
def A123.a3 : Ann := .items [.op 0]
def A123.a4 : Ann := .leaf
def A123.a5 : Ann := .leaf
def A123.a6 : Ann := .two A123.a4 A123.a5
def A123.a7 : Ann := .items [.op 0, .op 1, .opL 2, .op 3]
def A123.a8 : Ann := .items [.op 0, .op 1, .op 2, .opL 3, .op 4, .op 5]
def A123.a9 : Ann := .two A123.a7 A123.a8
def A123.a10 : Ann := .one A123.a9
def A123.a11 : Ann := .items [.op 0, .op 1]
def A123.a12 : Ann := .two A123.a10 A123.a11
def A123.a13 : Ann := .two A123.a6 A123.a12
def A123.a14 : Ann := .two A123.a3 A123.a13
def A123.a15 : Ann := .meet [1, 2, 3, 7, 8, 9] [1, 2] A123.a14
def A123.a16 : Ann := .one A123.a15
def A123.a17 : Ann := .two A123.a2 A123.a16
def A123.a18 : Ann := .items [.op 0, .op 1, .op 2]
def A123.a19 : Ann := .items [.op 0, .op 1]
def A123.a20 : Ann := .leaf
def A123.a21 : Ann := .two A123.a19 A123.a20
def A123.a22 : Ann := .two A123.a18 A123.a21
def A123.a23 : Ann := .two A123.a17 A123.a22
def A123.a24 : Ann := .two A123.a1 A123.a23
def A123.an : Ann := .two A123.a0 A123.a24
def F123_1 (N : Nat) (call : CT) (self : K3) : K3 :=
  (codeK Tryz.prog N call (c1 (c1 (c2 (c1 (c2 (c2 (bodyOf Tryz.f123))))))) A123.a14 (fun T L h => self (keepT [1, 2, 3, 7, 8, 9] T) (keepL [1, 2] L) h) (fun i T L h => match Nat.beq i 0 with | true => (codeK Tryz.prog N call (c2 (c2 (c2 (bodyOf Tryz.f123)))) A123.a22 (resK Tryz.prog Tryz.f123.results.toList) (fun _ _ _ _ => none) (resK Tryz.prog Tryz.f123.results.toList)) T L h | false => (fun _ _ _ _ => none) i T L h) (resK Tryz.prog Tryz.f123.results.toList))
def E123_1 (N : Nat) (call : CT) : K3 := iter (F123_1 N call) N
def S123_1 (call : CT) (k1 : OA → Nat → Option Nat → OA → Nat → Option Nat → Int → Int → AV → AV → AV → AV → AV → AV → AV → AV → AV → AV → H → R) (a_3 : OA) (n_3 : Nat) (c_3 : Option Nat) (a_7 : OA) (n_7 : Nat) (c_7 : Option Nat) (x_8 x_9 : Int) (l1_0 l1_1 : AV) (l1_2 l1_3 : AV) (l1_4 l2_0 : AV) (l2_1 l2_2 : AV) (l2_3 l2_4 : AV) (h : H) : R :=
  ifB (ltI x_9 x_8) (idxAddr 5 a_7 n_7 x_9 (fun b1 o2 => ldK h b1 o2 5 (fun l3 => row5 (fun x4 x5 x6 x7 x8 => bindR (call 123 [(.agg [x4, x5, x6, x7, x8])] h) (fun v9 h10 => onAgR v9 (fun l16 => row5 (fun x11 x12 x13 x14 x15 => appL h10 5 a_3 n_3 c_3 1 [x11, x12, x13, x14, x15] (fun a17 n18 c19 h20 => k1 a17 n18 c19 a_7 n_7 c_7 x_8 (wrapF .i64 (Int.add x_9 (Int.ofNat 1))) l1_0 l1_1 l1_2 l1_3 l1_4 l2_0 l2_1 l2_2 l2_3 l2_4 h20)) l16))) l3))) (some ((.agg [l1_0, l1_1, l1_2, l1_3, (.slice a_3 n_3 c_3)]), h))
def S123_0 (call : CT) (k1 : OA → Nat → Option Nat → OA → Nat → Option Nat → Int → Int → AV → AV → AV → AV → AV → AV → AV → AV → AV → AV → H → R) (y0 : AV) (h : H) : R :=
  onAgR y0 (fun l6 => row5 (fun x1 x2 x3 x4 x5 => onSlice x5 (fun a7 n8 c9 => k1 none 0 (some 0) a7 n8 c9 (Int.ofNat n8) (Int.ofNat 0) x1 x2 x3 x4 x5 (.str []) (.str []) (.int .i64 (Int.ofNat 0)) (.int .i64 (Int.ofNat 0)) (.slice none 0 (some 0)) h)) l6)
def B123_1 (N : Nat) (call : CT) (ih : OA → Nat → Option Nat → OA → Nat → Option Nat → Int → Int → AV → AV → AV → AV → AV → AV → AV → AV → AV → AV → H → R) : OA → Nat → Option Nat → OA → Nat → Option Nat → Int → Int → AV → AV → AV → AV → AV → AV → AV → AV → AV → AV → H → R := S123_1 call ih
def I123_1 (N : Nat) (call : CT) (n : Nat) : OA → Nat → Option Nat → OA → Nat → Option Nat → Int → Int → AV → AV → AV → AV → AV → AV → AV → AV → AV → AV → H → R := Nat.rec (motive := fun _ => OA → Nat → Option Nat → OA → Nat → Option Nat → Int → Int → AV → AV → AV → AV → AV → AV → AV → AV → AV → AV → H → R) (fun _ _ _ _ _ _ _ _ _ _ _ _ _ _ _ _ _ _ _ => none) (fun _ ih => B123_1 N call ih) n
def C123_1 (N : Nat) (call : CT) : OA → Nat → Option Nat → OA → Nat → Option Nat → Int → Int → AV → AV → AV → AV → AV → AV → AV → AV → AV → AV → H → R := I123_1 N call N
def S123 (N : Nat) (call : CT) (y0 : AV) (h : H) : R := S123_0 call (C123_1 N call) y0 h
def T123_1 (a_3 : OA) (n_3 : Nat) (c_3 : Option Nat) (a_7 : OA) (n_7 : Nat) (c_7 : Option Nat) (x_8 x_9 : Int) (l1_0 l1_1 : AV) (l1_2 l1_3 : AV) (l1_4 l2_0 : AV) (l2_1 l2_2 : AV) (l2_3 l2_4 : AV) : LF := [none, (some (.lptr 1 0)), (some (.lptr 2 0)), (some (.v (.slice a_3 n_3 c_3))), oo, oo, oo, (some (.v (.slice a_7 n_7 c_7))), (some (.v (.int .i64 x_8))), (some (.v (.int .i64 x_9))), oo, oo, oo, oo, oo, oo, oo, oo, oo, oo, oo, oo]
def L123_1 (a_3 : OA) (n_3 : Nat) (c_3 : Option Nat) (a_7 : OA) (n_7 : Nat) (c_7 : Option Nat) (x_8 x_9 : Int) (l1_0 l1_1 : AV) (l1_2 l1_3 : AV) (l1_4 l2_0 : AV) (l2_1 l2_2 : AV) (l2_3 l2_4 : AV) : LL := [none, (some (.cells [l1_0, l1_1, l1_2, l1_3, l1_4])), (some (.cells [l2_0, l2_1, l2_2, l2_3, l2_4])), oo, oo, oo, oo, oo, oo, oo, oo, oo, oo, oo, oo, oo, oo, oo, oo, oo, oo, oo]
theorem R123_1 (N : Nat) (call : CT) (self : K3) (a_3 : OA) (n_3 : Nat) (c_3 : Option Nat) (a_7 : OA) (n_7 : Nat) (c_7 : Option Nat) (x_8 x_9 : Int) (l1_0 l1_1 : AV) (l1_2 l1_3 : AV) (l1_4 l2_0 : AV) (l2_1 l2_2 : AV) (l2_3 l2_4 : AV) (h : H) : F123_1 N call self (T123_1 a_3 n_3 c_3 a_7 n_7 c_7 x_8 x_9 l1_0 l1_1 l1_2 l1_3 l1_4 l2_0 l2_1 l2_2 l2_3 l2_4) (L123_1 a_3 n_3 c_3 a_7 n_7 c_7 x_8 x_9 l1_0 l1_1 l1_2 l1_3 l1_4 l2_0 l2_1 l2_2 l2_3 l2_4) h = S123_1 call (fun (a_3 : OA) (n_3 : Nat) (c_3 : Option Nat) (a_7 : OA) (n_7 : Nat) (c_7 : Option Nat) (x_8 x_9 : Int) (l1_0 l1_1 : AV) (l1_2 l1_3 : AV) (l1_4 l2_0 : AV) (l2_1 l2_2 : AV) (l2_3 l2_4 : AV) h => self (T123_1 a_3 n_3 c_3 a_7 n_7 c_7 x_8 x_9 l1_0 l1_1 l1_2 l1_3 l1_4 l2_0 l2_1 l2_2 l2_3 l2_4) (L123_1 a_3 n_3 c_3 a_7 n_7 c_7 x_8 x_9 l1_0 l1_1 l1_2 l1_3 l1_4 l2_0 l2_1 l2_2 l2_3 l2_4) h) a_3 n_3 c_3 a_7 n_7 c_7 x_8 x_9 l1_0 l1_1 l1_2 l1_3 l1_4 l2_0 l2_1 l2_2 l2_3 l2_4 h := by kernel_rfl
theorem Q123_1 (N : Nat) (call : CT) (n : Nat) : ∀ (a_3 : OA) (n_3 : Nat) (c_3 : Option Nat) (a_7 : OA) (n_7 : Nat) (c_7 : Option Nat) (x_8 x_9 : Int) (l1_0 l1_1 : AV) (l1_2 l1_3 : AV) (l1_4 l2_0 : AV) (l2_1 l2_2 : AV) (l2_3 l2_4 : AV) (h : H), (iter (F123_1 N call) n) (T123_1 a_3 n_3 c_3 a_7 n_7 c_7 x_8 x_9 l1_0 l1_1 l1_2 l1_3 l1_4 l2_0 l2_1 l2_2 l2_3 l2_4) (L123_1 a_3 n_3 c_3 a_7 n_7 c_7 x_8 x_9 l1_0 l1_1 l1_2 l1_3 l1_4 l2_0 l2_1 l2_2 l2_3 l2_4) h = I123_1 N call n a_3 n_3 c_3 a_7 n_7 c_7 x_8 x_9 l1_0 l1_1 l1_2 l1_3 l1_4 l2_0 l2_1 l2_2 l2_3 l2_4 h := by
  induction n with
  | zero => intros; exact (iter_zero _ _ _ _).trans (by kernel_rfl)
  | succ n ih =>
    intro a_3 n_3 c_3 a_7 n_7 c_7 x_8 x_9 l1_0 l1_1 l1_2 l1_3 l1_4 l2_0 l2_1 l2_2 l2_3 l2_4 h
    have e0 : (fun (a_3 : OA) (n_3 : Nat) (c_3 : Option Nat) (a_7 : OA) (n_7 : Nat) (c_7 : Option Nat) (x_8 x_9 : Int) (l1_0 l1_1 : AV) (l1_2 l1_3 : AV) (l1_4 l2_0 : AV) (l2_1 l2_2 : AV) (l2_3 l2_4 : AV) h => (iter (F123_1 N call) n) (T123_1 a_3 n_3 c_3 a_7 n_7 c_7 x_8 x_9 l1_0 l1_1 l1_2 l1_3 l1_4 l2_0 l2_1 l2_2 l2_3 l2_4) (L123_1 a_3 n_3 c_3 a_7 n_7 c_7 x_8 x_9 l1_0 l1_1 l1_2 l1_3 l1_4 l2_0 l2_1 l2_2 l2_3 l2_4) h) = (I123_1 N call n) := by funext a_3 n_3 c_3 a_7 n_7 c_7 x_8 x_9 l1_0 l1_1 l1_2 l1_3 l1_4 l2_0 l2_1 l2_2 l2_3 l2_4 h; exact ih a_3 n_3 c_3 a_7 n_7 c_7 x_8 x_9 l1_0 l1_1 l1_2 l1_3 l1_4 l2_0 l2_1 l2_2 l2_3 l2_4 h
    have r := R123_1 N call (iter (F123_1 N call) n) a_3 n_3 c_3 a_7 n_7 c_7 x_8 x_9 l1_0 l1_1 l1_2 l1_3 l1_4 l2_0 l2_1 l2_2 l2_3 l2_4 h
    rw [e0] at r
    have g := iter_succ (F123_1 N call) n (T123_1 a_3 n_3 c_3 a_7 n_7 c_7 x_8 x_9 l1_0 l1_1 l1_2 l1_3 l1_4 l2_0 l2_1 l2_2 l2_3 l2_4) (L123_1 a_3 n_3 c_3 a_7 n_7 c_7 x_8 x_9 l1_0 l1_1 l1_2 l1_3 l1_4 l2_0 l2_1 l2_2 l2_3 l2_4) h
    have z : S123_1 call (I123_1 N call n) a_3 n_3 c_3 a_7 n_7 c_7 x_8 x_9 l1_0 l1_1 l1_2 l1_3 l1_4 l2_0 l2_1 l2_2 l2_3 l2_4 h = I123_1 N call (n + 1) a_3 n_3 c_3 a_7 n_7 c_7 x_8 x_9 l1_0 l1_1 l1_2 l1_3 l1_4 l2_0 l2_1 l2_2 l2_3 l2_4 h := by kernel_rfl
    exact g.trans (r.trans z)
theorem Z123_1 (N : Nat) (call : CT) (a_3 : OA) (n_3 : Nat) (c_3 : Option Nat) (a_7 : OA) (n_7 : Nat) (c_7 : Option Nat) (x_8 x_9 : Int) (l1_0 l1_1 : AV) (l1_2 l1_3 : AV) (l1_4 l2_0 : AV) (l2_1 l2_2 : AV) (l2_3 l2_4 : AV) (h : H) : (E123_1 N call) (T123_1 a_3 n_3 c_3 a_7 n_7 c_7 x_8 x_9 l1_0 l1_1 l1_2 l1_3 l1_4 l2_0 l2_1 l2_2 l2_3 l2_4) (L123_1 a_3 n_3 c_3 a_7 n_7 c_7 x_8 x_9 l1_0 l1_1 l1_2 l1_3 l1_4 l2_0 l2_1 l2_2 l2_3 l2_4) h = C123_1 N call a_3 n_3 c_3 a_7 n_7 c_7 x_8 x_9 l1_0 l1_1 l1_2 l1_3 l1_4 l2_0 l2_1 l2_2 l2_3 l2_4 h := by
  have g : (E123_1 N call) (T123_1 a_3 n_3 c_3 a_7 n_7 c_7 x_8 x_9 l1_0 l1_1 l1_2 l1_3 l1_4 l2_0 l2_1 l2_2 l2_3 l2_4) (L123_1 a_3 n_3 c_3 a_7 n_7 c_7 x_8 x_9 l1_0 l1_1 l1_2 l1_3 l1_4 l2_0 l2_1 l2_2 l2_3 l2_4) h = iter (F123_1 N call) N (T123_1 a_3 n_3 c_3 a_7 n_7 c_7 x_8 x_9 l1_0 l1_1 l1_2 l1_3 l1_4 l2_0 l2_1 l2_2 l2_3 l2_4) (L123_1 a_3 n_3 c_3 a_7 n_7 c_7 x_8 x_9 l1_0 l1_1 l1_2 l1_3 l1_4 l2_0 l2_1 l2_2 l2_3 l2_4) h := by kernel_rfl
  have z : I123_1 N call N a_3 n_3 c_3 a_7 n_7 c_7 x_8 x_9 l1_0 l1_1 l1_2 l1_3 l1_4 l2_0 l2_1 l2_2 l2_3 l2_4 h = C123_1 N call a_3 n_3 c_3 a_7 n_7 c_7 x_8 x_9 l1_0 l1_1 l1_2 l1_3 l1_4 l2_0 l2_1 l2_2 l2_3 l2_4 h := by kernel_rfl
  exact g.trans ((Q123_1 N call N a_3 n_3 c_3 a_7 n_7 c_7 x_8 x_9 l1_0 l1_1 l1_2 l1_3 l1_4 l2_0 l2_1 l2_2 l2_3 l2_4 h).trans z)
theorem R123_0 (N : Nat) (call : CT) (y0 : AV) (h : H) : body Tryz.prog N call Tryz.f123 A123.an [y0] h = S123_0 call (fun (a_3 : OA) (n_3 : Nat) (c_3 : Option Nat) (a_7 : OA) (n_7 : Nat) (c_7 : Option Nat) (x_8 x_9 : Int) (l1_0 l1_1 : AV) (l1_2 l1_3 : AV) (l1_4 l2_0 : AV) (l2_1 l2_2 : AV) (l2_3 l2_4 : AV) h => (E123_1 N call) (T123_1 a_3 n_3 c_3 a_7 n_7 c_7 x_8 x_9 l1_0 l1_1 l1_2 l1_3 l1_4 l2_0 l2_1 l2_2 l2_3 l2_4) (L123_1 a_3 n_3 c_3 a_7 n_7 c_7 x_8 x_9 l1_0 l1_1 l1_2 l1_3 l1_4 l2_0 l2_1 l2_2 l2_3 l2_4) h) y0 h := by kernel_rfl
theorem Z123 (N : Nat) (call : CT) (y0 : AV) (h : H) : body Tryz.prog N call Tryz.f123 A123.an [y0] h = S123 N call y0 h := by
  have e1 : (fun (a_3 : OA) (n_3 : Nat) (c_3 : Option Nat) (a_7 : OA) (n_7 : Nat) (c_7 : Option Nat) (x_8 x_9 : Int) (l1_0 l1_1 : AV) (l1_2 l1_3 : AV) (l1_4 l2_0 : AV) (l2_1 l2_2 : AV) (l2_3 l2_4 : AV) h => (E123_1 N call) (T123_1 a_3 n_3 c_3 a_7 n_7 c_7 x_8 x_9 l1_0 l1_1 l1_2 l1_3 l1_4 l2_0 l2_1 l2_2 l2_3 l2_4) (L123_1 a_3 n_3 c_3 a_7 n_7 c_7 x_8 x_9 l1_0 l1_1 l1_2 l1_3 l1_4 l2_0 l2_1 l2_2 l2_3 l2_4) h) = (C123_1 N call) := by
    funext a_3 n_3 c_3 a_7 n_7 c_7 x_8 x_9 l1_0 l1_1 l1_2 l1_3 l1_4 l2_0 l2_1 l2_2 l2_3 l2_4 h
    exact Z123_1 N call a_3 n_3 c_3 a_7 n_7 c_7 x_8 x_9 l1_0 l1_1 l1_2 l1_3 l1_4 l2_0 l2_1 l2_2 l2_3 l2_4 h
  have r := R123_0 N call y0 h
  rw [e1] at r
  have z : S123_0 call (C123_1 N call) y0 h = S123 N call y0 h := by kernel_rfl
  exact r.trans z
theorem V123 (N : Nat) (call : CT) (vs : List AV) (h : H) : body Tryz.prog N call Tryz.f123 A123.an vs h = row1 (fun y0 => S123 N call y0 h) vs := wrap1 (by kernel_rfl) (fun y0 => Z123 N call y0 h) vs
/- sibyl/free.binds -/
def A124.a0 : Ann := .items [.opL 0, .op 1]
def A124.a1 : Ann := .items [.op 0, .op 1, .op 2, .op 3, .split 6, .op 4, .op 5, .op 6, .op 7, .op 8]
def A124.a2 : Ann := .leaf
def A124.a3 : Ann := .two A124.a1 A124.a2
def A124.an : Ann := .two A124.a0 A124.a3
def S124_0 (call : CT) (y0 : AV) (h : H) : R :=
  onAgR y0 (fun l6 => row5 (fun x1 x2 x3 x4 x5 => onStr x1 (fun s7 => ifB (eqS s7 [101, 120]) (some ((.bool true), h)) (onStr x1 (fun s8 => some ((.bool (eqS s8 [97, 108, 108])), h))))) l6)
def S124 (N : Nat) (call : CT) (y0 : AV) (h : H) : R := S124_0 call y0 h
theorem R124_0 (N : Nat) (call : CT) (y0 : AV) (h : H) : body Tryz.prog N call Tryz.f124 A124.an [y0] h = S124_0 call y0 h := by kernel_rfl
theorem Z124 (N : Nat) (call : CT) (y0 : AV) (h : H) : body Tryz.prog N call Tryz.f124 A124.an [y0] h = S124 N call y0 h := by
  have r := R124_0 N call y0 h
  have z : S124_0 call y0 h = S124 N call y0 h := by kernel_rfl
  exact r.trans z
theorem V124 (N : Nat) (call : CT) (vs : List AV) (h : H) : body Tryz.prog N call Tryz.f124 A124.an vs h = row1 (fun y0 => S124 N call y0 h) vs := wrap1 (by kernel_rfl) (fun y0 => Z124 N call y0 h) vs
/- sibyl/free.Join -/
def A126.a0 : Ann := .items [.opL 0, .opL 1]
def A126.a1 : Ann := .items [.op 0, .op 1, .op 2, .op 3, .split 7, .op 4, .op 5, .op 6, .op 7, .op 8]
def A126.a2 : Ann := .items [.op 0, .op 1]
def A126.a3 : Ann := .leaf
def A126.a4 : Ann := .two A126.a2 A126.a3
def A126.a5 : Ann := .leaf
def A126.a6 : Ann := .two A126.a4 A126.a5
def A126.a7 : Ann := .join [1, 2, 12] [1, 2] A126.a1 A126.a6
def A126.a8 : Ann := .items [.op 0, .op 1, .op 2, .op 3, .opL 4, .op 5]
def A126.a9 : Ann := .items [.op 0, .op 1]
def A126.a10 : Ann := .items [.op 0, .op 1]
def A126.a11 : Ann := .items [.op 0, .op 1, .op 2, .op 3, .op 4, .op 5, .op 6, .op 7, .op 8]
def A126.a12 : Ann := .leaf
def A126.a13 : Ann := .two A126.a11 A126.a12
def A126.a14 : Ann := .items [.op 0, .op 1]
def A126.a15 : Ann := .items [.op 0, .op 1, .op 2, .op 3, .op 4, .op 5, .op 6]
def A126.a16 : Ann := .items [.op 0, .op 1, .op 2, .op 3]
def A126.a17 : Ann := .two A126.a15 A126.a16
def A126.a18 : Ann := .leaf
def A126.a19 : Ann := .two A126.a17 A126.a18
def A126.a20 : Ann := .two A126.a14 A126.a19
def A126.a21 : Ann := .two A126.a13 A126.a20
def A126.a22 : Ann := .two A126.a10 A126.a21
def A126.a23 : Ann := .one A126.a22
def A126.a24 : Ann := .two A126.a9 A126.a23
def A126.a25 : Ann := .items [.op 0, .op 1]
def A126.a26 : Ann := .leaf
def A126.a27 : Ann := .two A126.a25 A126.a26
def A126.a28 : Ann := .join [1, 2] [1, 2] A126.a24 A126.a27
def A126.a29 : Ann := .two A126.a8 A126.a28
def A126.a30 : Ann := .join [1, 2] [1, 2] A126.a7 A126.a29
def A126.an : Ann := .two A126.a0 A126.a30
def E126_1 (N : Nat) (call : CT) : K3 :=
  (codeK Tryz.prog N call (c2 (c2 (bodyOf Tryz.f126))) A126.a29 (resK Tryz.prog Tryz.f126.results.toList) (fun _ _ _ _ => none) (resK Tryz.prog Tryz.f126.results.toList))
def E126_2 (N : Nat) (call : CT) : K3 :=
  (codeK Tryz.prog N call (c2 (c1 (c2 (bodyOf Tryz.f126)))) A126.a6 (fun T L h => (E126_1 N call) (keepT [1, 2] T) (keepL [1, 2] L) h) (fun _ _ _ _ => none) (resK Tryz.prog Tryz.f126.results.toList))
def E126_3 (N : Nat) (call : CT) : K3 :=
  (codeK Tryz.prog N call (c2 (c2 (c2 (c2 (bodyOf Tryz.f126))))) A126.a27 (resK Tryz.prog Tryz.f126.results.toList) (fun _ _ _ _ => none) (resK Tryz.prog Tryz.f126.results.toList))
def S126_1 (call : CT) (k3 : AV → AV → AV → AV → AV → AV → AV → AV → AV → AV → H → R) (l1_0 l1_1 : AV) (l1_2 l1_3 : AV) (l1_4 l2_0 : AV) (l2_1 l2_2 : AV) (l2_3 l2_4 : AV) (h : H) : R :=
  onSlice l1_4 (fun a1 n2 c3 => idxAddr 5 a1 n2 (Int.ofNat 0) (fun b4 o5 => ldK h b4 o5 5 (fun l6 => row5 (fun x7 x8 x9 x10 x11 => onStr x7 (fun s12 => ifB (eqS s12 [110, 117, 109]) (onInt .i64 l1_2 (fun i13 => onInt .i64 x9 (fun i14 => onInt .i64 l1_3 (fun i15 => some ((.agg [(.str [110, 117, 109]), (.str []), (.int .i64 (wrapF .i64 (Int.add i13 i14))), (.int .i64 i15), (.slice none 0 (some 0))]), h))))) (ifB (eqS s12 [112, 108, 117, 115]) (onInt .i64 l1_2 (fun i16 => onInt .i64 x9 (fun i17 => onSlice x11 (fun a18 n19 c20 => k3 l1_0 l1_1 (.int .i64 (wrapF .i64 (Int.add i16 i17))) l1_3 (.slice a18 n19 c20) l2_0 l2_1 l2_2 l2_3 l2_4 h)))) (k3 l1_0 l1_1 l1_2 l1_3 l1_4 l2_0 l2_1 l2_2 l2_3 l2_4 h)))) l6)))
def S126_2 (call : CT) (k1 : AV → AV → AV → AV → AV → AV → AV → AV → AV → AV → H → R) (x_12 : Bool) (l1_0 l1_1 : AV) (l1_2 l1_3 : AV) (l1_4 l2_0 : AV) (l2_1 l2_2 : AV) (l2_3 l2_4 : AV) (h : H) : R :=
  ifB x_12 (some ((.agg [l1_0, l1_1, l1_2, l1_3, l1_4]), h)) (k1 l1_0 l1_1 l1_2 l1_3 l1_4 l2_0 l2_1 l2_2 l2_3 l2_4 h)
def S126_3 (call : CT) (l1_0 l1_1 : AV) (l1_2 l1_3 : AV) (l1_4 l2_0 : AV) (l2_1 l2_2 : AV) (l2_3 l2_4 : AV) (h : H) : R :=
  some ((.agg [l1_0, l1_1, l1_2, l1_3, l1_4]), h)
def S126_0 (call : CT) (k2 : Bool → AV → AV → AV → AV → AV → AV → AV → AV → AV → AV → H → R) (y0 : AV) (h : H) : R :=
  onAgR y0 (fun l6 => row5 (fun x1 x2 x3 x4 x5 => onStr x1 (fun s7 => ifB (!(eqS s7 [112, 108, 117, 115])) (k2 true x1 x2 x3 x4 x5 (.str []) (.str []) (.int .i64 (Int.ofNat 0)) (.int .i64 (Int.ofNat 0)) (.slice none 0 (some 0)) h) (onSlice x5 (fun a8 n9 c10 => k2 (!eqI (Int.ofNat n9) (Int.ofNat 1)) x1 x2 x3 x4 x5 (.str []) (.str []) (.int .i64 (Int.ofNat 0)) (.int .i64 (Int.ofNat 0)) (.slice none 0 (some 0)) h)))) l6)
def C126_3 (N : Nat) (call : CT) : AV → AV → AV → AV → AV → AV → AV → AV → AV → AV → H → R := S126_3 call
def C126_1 (N : Nat) (call : CT) : AV → AV → AV → AV → AV → AV → AV → AV → AV → AV → H → R := S126_1 call (C126_3 N call)
def C126_2 (N : Nat) (call : CT) : Bool → AV → AV → AV → AV → AV → AV → AV → AV → AV → AV → H → R := S126_2 call (C126_1 N call)
def S126 (N : Nat) (call : CT) (y0 : AV) (h : H) : R := S126_0 call (C126_2 N call) y0 h
def T126_1 (l1_0 l1_1 : AV) (l1_2 l1_3 : AV) (l1_4 l2_0 : AV) (l2_1 l2_2 : AV) (l2_3 l2_4 : AV) : LF := [none, (some (.lptr 1 0)), (some (.lptr 2 0)), oo, oo, oo, oo, oo, oo, oo, oo, oo, oo, oo, oo, oo, oo, oo, oo, oo, oo, oo, oo, oo, oo, oo, oo, oo, oo, oo, oo, oo, oo, oo, oo, oo, oo, oo, oo, oo, oo, oo]
def L126_1 (l1_0 l1_1 : AV) (l1_2 l1_3 : AV) (l1_4 l2_0 : AV) (l2_1 l2_2 : AV) (l2_3 l2_4 : AV) : LL := [none, (some (.cells [l1_0, l1_1, l1_2, l1_3, l1_4])), (some (.cells [l2_0, l2_1, l2_2, l2_3, l2_4])), oo, oo, oo, oo, oo, oo, oo, oo, oo, oo, oo, oo, oo, oo, oo, oo, oo, oo, oo, oo, oo, oo, oo, oo, oo, oo, oo, oo, oo, oo, oo, oo, oo, oo, oo, oo, oo, oo, oo]
def T126_2 (x_12 : Bool) (l1_0 l1_1 : AV) (l1_2 l1_3 : AV) (l1_4 l2_0 : AV) (l2_1 l2_2 : AV) (l2_3 l2_4 : AV) : LF := [none, (some (.lptr 1 0)), (some (.lptr 2 0)), oo, oo, oo, oo, oo, oo, oo, oo, oo, (some (.v (.bool x_12))), oo, oo, oo, oo, oo, oo, oo, oo, oo, oo, oo, oo, oo, oo, oo, oo, oo, oo, oo, oo, oo, oo, oo, oo, oo, oo, oo, oo, oo]
def L126_2 (x_12 : Bool) (l1_0 l1_1 : AV) (l1_2 l1_3 : AV) (l1_4 l2_0 : AV) (l2_1 l2_2 : AV) (l2_3 l2_4 : AV) : LL := [none, (some (.cells [l1_0, l1_1, l1_2, l1_3, l1_4])), (some (.cells [l2_0, l2_1, l2_2, l2_3, l2_4])), oo, oo, oo, oo, oo, oo, oo, oo, oo, oo, oo, oo, oo, oo, oo, oo, oo, oo, oo, oo, oo, oo, oo, oo, oo, oo, oo, oo, oo, oo, oo, oo, oo, oo, oo, oo, oo, oo, oo]
def T126_3 (l1_0 l1_1 : AV) (l1_2 l1_3 : AV) (l1_4 l2_0 : AV) (l2_1 l2_2 : AV) (l2_3 l2_4 : AV) : LF := [none, (some (.lptr 1 0)), (some (.lptr 2 0)), oo, oo, oo, oo, oo, oo, oo, oo, oo, oo, oo, oo, oo, oo, oo, oo, oo, oo, oo, oo, oo, oo, oo, oo, oo, oo, oo, oo, oo, oo, oo, oo, oo, oo, oo, oo, oo, oo, oo]
def L126_3 (l1_0 l1_1 : AV) (l1_2 l1_3 : AV) (l1_4 l2_0 : AV) (l2_1 l2_2 : AV) (l2_3 l2_4 : AV) : LL := [none, (some (.cells [l1_0, l1_1, l1_2, l1_3, l1_4])), (some (.cells [l2_0, l2_1, l2_2, l2_3, l2_4])), oo, oo, oo, oo, oo, oo, oo, oo, oo, oo, oo, oo, oo, oo, oo, oo, oo, oo, oo, oo, oo, oo, oo, oo, oo, oo, oo, oo, oo, oo, oo, oo, oo, oo, oo, oo, oo, oo, oo]
theorem R126_3 (N : Nat) (call : CT) (l1_0 l1_1 : AV) (l1_2 l1_3 : AV) (l1_4 l2_0 : AV) (l2_1 l2_2 : AV) (l2_3 l2_4 : AV) (h : H) : E126_3 N call (T126_3 l1_0 l1_1 l1_2 l1_3 l1_4 l2_0 l2_1 l2_2 l2_3 l2_4) (L126_3 l1_0 l1_1 l1_2 l1_3 l1_4 l2_0 l2_1 l2_2 l2_3 l2_4) h = S126_3 call l1_0 l1_1 l1_2 l1_3 l1_4 l2_0 l2_1 l2_2 l2_3 l2_4 h := by kernel_rfl
theorem Z126_3 (N : Nat) (call : CT) (l1_0 l1_1 : AV) (l1_2 l1_3 : AV) (l1_4 l2_0 : AV) (l2_1 l2_2 : AV) (l2_3 l2_4 : AV) (h : H) : E126_3 N call (T126_3 l1_0 l1_1 l1_2 l1_3 l1_4 l2_0 l2_1 l2_2 l2_3 l2_4) (L126_3 l1_0 l1_1 l1_2 l1_3 l1_4 l2_0 l2_1 l2_2 l2_3 l2_4) h = C126_3 N call l1_0 l1_1 l1_2 l1_3 l1_4 l2_0 l2_1 l2_2 l2_3 l2_4 h := by
  have r := R126_3 N call l1_0 l1_1 l1_2 l1_3 l1_4 l2_0 l2_1 l2_2 l2_3 l2_4 h
  have z : S126_3 call l1_0 l1_1 l1_2 l1_3 l1_4 l2_0 l2_1 l2_2 l2_3 l2_4 h = C126_3 N call l1_0 l1_1 l1_2 l1_3 l1_4 l2_0 l2_1 l2_2 l2_3 l2_4 h := by kernel_rfl
  exact r.trans z
theorem R126_1 (N : Nat) (call : CT) (l1_0 l1_1 : AV) (l1_2 l1_3 : AV) (l1_4 l2_0 : AV) (l2_1 l2_2 : AV) (l2_3 l2_4 : AV) (h : H) : E126_1 N call (T126_1 l1_0 l1_1 l1_2 l1_3 l1_4 l2_0 l2_1 l2_2 l2_3 l2_4) (L126_1 l1_0 l1_1 l1_2 l1_3 l1_4 l2_0 l2_1 l2_2 l2_3 l2_4) h = S126_1 call (fun (l1_0 l1_1 : AV) (l1_2 l1_3 : AV) (l1_4 l2_0 : AV) (l2_1 l2_2 : AV) (l2_3 l2_4 : AV) h => (E126_3 N call) (T126_3 l1_0 l1_1 l1_2 l1_3 l1_4 l2_0 l2_1 l2_2 l2_3 l2_4) (L126_3 l1_0 l1_1 l1_2 l1_3 l1_4 l2_0 l2_1 l2_2 l2_3 l2_4) h) l1_0 l1_1 l1_2 l1_3 l1_4 l2_0 l2_1 l2_2 l2_3 l2_4 h := by kernel_rfl
theorem Z126_1 (N : Nat) (call : CT) (l1_0 l1_1 : AV) (l1_2 l1_3 : AV) (l1_4 l2_0 : AV) (l2_1 l2_2 : AV) (l2_3 l2_4 : AV) (h : H) : E126_1 N call (T126_1 l1_0 l1_1 l1_2 l1_3 l1_4 l2_0 l2_1 l2_2 l2_3 l2_4) (L126_1 l1_0 l1_1 l1_2 l1_3 l1_4 l2_0 l2_1 l2_2 l2_3 l2_4) h = C126_1 N call l1_0 l1_1 l1_2 l1_3 l1_4 l2_0 l2_1 l2_2 l2_3 l2_4 h := by
  have e3 : (fun (l1_0 l1_1 : AV) (l1_2 l1_3 : AV) (l1_4 l2_0 : AV) (l2_1 l2_2 : AV) (l2_3 l2_4 : AV) h => (E126_3 N call) (T126_3 l1_0 l1_1 l1_2 l1_3 l1_4 l2_0 l2_1 l2_2 l2_3 l2_4) (L126_3 l1_0 l1_1 l1_2 l1_3 l1_4 l2_0 l2_1 l2_2 l2_3 l2_4) h) = (C126_3 N call) := by
    funext l1_0 l1_1 l1_2 l1_3 l1_4 l2_0 l2_1 l2_2 l2_3 l2_4 h
    exact Z126_3 N call l1_0 l1_1 l1_2 l1_3 l1_4 l2_0 l2_1 l2_2 l2_3 l2_4 h
  have r := R126_1 N call l1_0 l1_1 l1_2 l1_3 l1_4 l2_0 l2_1 l2_2 l2_3 l2_4 h
  rw [e3] at r
  have z : S126_1 call (C126_3 N call) l1_0 l1_1 l1_2 l1_3 l1_4 l2_0 l2_1 l2_2 l2_3 l2_4 h = C126_1 N call l1_0 l1_1 l1_2 l1_3 l1_4 l2_0 l2_1 l2_2 l2_3 l2_4 h := by kernel_rfl
  exact r.trans z
theorem R126_2 (N : Nat) (call : CT) (x_12 : Bool) (l1_0 l1_1 : AV) (l1_2 l1_3 : AV) (l1_4 l2_0 : AV) (l2_1 l2_2 : AV) (l2_3 l2_4 : AV) (h : H) : E126_2 N call (T126_2 x_12 l1_0 l1_1 l1_2 l1_3 l1_4 l2_0 l2_1 l2_2 l2_3 l2_4) (L126_2 x_12 l1_0 l1_1 l1_2 l1_3 l1_4 l2_0 l2_1 l2_2 l2_3 l2_4) h = S126_2 call (fun (l1_0 l1_1 : AV) (l1_2 l1_3 : AV) (l1_4 l2_0 : AV) (l2_1 l2_2 : AV) (l2_3 l2_4 : AV) h => (E126_1 N call) (T126_1 l1_0 l1_1 l1_2 l1_3 l1_4 l2_0 l2_1 l2_2 l2_3 l2_4) (L126_1 l1_0 l1_1 l1_2 l1_3 l1_4 l2_0 l2_1 l2_2 l2_3 l2_4) h) x_12 l1_0 l1_1 l1_2 l1_3 l1_4 l2_0 l2_1 l2_2 l2_3 l2_4 h := by kernel_rfl
theorem Z126_2 (N : Nat) (call : CT) (x_12 : Bool) (l1_0 l1_1 : AV) (l1_2 l1_3 : AV) (l1_4 l2_0 : AV) (l2_1 l2_2 : AV) (l2_3 l2_4 : AV) (h : H) : E126_2 N call (T126_2 x_12 l1_0 l1_1 l1_2 l1_3 l1_4 l2_0 l2_1 l2_2 l2_3 l2_4) (L126_2 x_12 l1_0 l1_1 l1_2 l1_3 l1_4 l2_0 l2_1 l2_2 l2_3 l2_4) h = C126_2 N call x_12 l1_0 l1_1 l1_2 l1_3 l1_4 l2_0 l2_1 l2_2 l2_3 l2_4 h := by
  have e1 : (fun (l1_0 l1_1 : AV) (l1_2 l1_3 : AV) (l1_4 l2_0 : AV) (l2_1 l2_2 : AV) (l2_3 l2_4 : AV) h => (E126_1 N call) (T126_1 l1_0 l1_1 l1_2 l1_3 l1_4 l2_0 l2_1 l2_2 l2_3 l2_4) (L126_1 l1_0 l1_1 l1_2 l1_3 l1_4 l2_0 l2_1 l2_2 l2_3 l2_4) h) = (C126_1 N call) := by
    funext l1_0 l1_1 l1_2 l1_3 l1_4 l2_0 l2_1 l2_2 l2_3 l2_4 h
    exact Z126_1 N call l1_0 l1_1 l1_2 l1_3 l1_4 l2_0 l2_1 l2_2 l2_3 l2_4 h
  have r := R126_2 N call x_12 l1_0 l1_1 l1_2 l1_3 l1_4 l2_0 l2_1 l2_2 l2_3 l2_4 h
  rw [e1] at r
  have z : S126_2 call (C126_1 N call) x_12 l1_0 l1_1 l1_2 l1_3 l1_4 l2_0 l2_1 l2_2 l2_3 l2_4 h = C126_2 N call x_12 l1_0 l1_1 l1_2 l1_3 l1_4 l2_0 l2_1 l2_2 l2_3 l2_4 h := by kernel_rfl
  exact r.trans z
theorem R126_0 (N : Nat) (call : CT) (y0 : AV) (h : H) : body Tryz.prog N call Tryz.f126 A126.an [y0] h = S126_0 call (fun (x_12 : Bool) (l1_0 l1_1 : AV) (l1_2 l1_3 : AV) (l1_4 l2_0 : AV) (l2_1 l2_2 : AV) (l2_3 l2_4 : AV) h => (E126_2 N call) (T126_2 x_12 l1_0 l1_1 l1_2 l1_3 l1_4 l2_0 l2_1 l2_2 l2_3 l2_4) (L126_2 x_12 l1_0 l1_1 l1_2 l1_3 l1_4 l2_0 l2_1 l2_2 l2_3 l2_4) h) y0 h := by kernel_rfl
theorem Z126 (N : Nat) (call : CT) (y0 : AV) (h : H) : body Tryz.prog N call Tryz.f126 A126.an [y0] h = S126 N call y0 h := by
  have e2 : (fun (x_12 : Bool) (l1_0 l1_1 : AV) (l1_2 l1_3 : AV) (l1_4 l2_0 : AV) (l2_1 l2_2 : AV) (l2_3 l2_4 : AV) h => (E126_2 N call) (T126_2 x_12 l1_0 l1_1 l1_2 l1_3 l1_4 l2_0 l2_1 l2_2 l2_3 l2_4) (L126_2 x_12 l1_0 l1_1 l1_2 l1_3 l1_4 l2_0 l2_1 l2_2 l2_3 l2_4) h) = (C126_2 N call) := by
    funext x_12 l1_0 l1_1 l1_2 l1_3 l1_4 l2_0 l2_1 l2_2 l2_3 l2_4 h
    exact Z126_2 N call x_12 l1_0 l1_1 l1_2 l1_3 l1_4 l2_0 l2_1 l2_2 l2_3 l2_4 h
  have r := R126_0 N call y0 h
  rw [e2] at r
  have z : S126_0 call (C126_2 N call) y0 h = S126 N call y0 h := by kernel_rfl
  exact r.trans z
theorem V126 (N : Nat) (call : CT) (vs : List AV) (h : H) : body Tryz.prog N call Tryz.f126 A126.an vs h = row1 (fun y0 => S126 N call y0 h) vs := wrap1 (by kernel_rfl) (fun y0 => Z126 N call y0 h) vs
/- sibyl/sibylref2.Words -/
def A127.a0 : Ann := .items [.op 0]
def A127.a1 : Ann := .items [.op 0, .op 1]
def A127.a2 : Ann := .leaf
def A127.a3 : Ann := .two A127.a1 A127.a2
def A127.an : Ann := .two A127.a0 A127.a3
def S127_0 (call : CT) (h : H) : R :=
  newK h [(.str [116, 114, 117, 101]), (.str [102, 97, 108, 115, 101]), (.str [101, 120, 48]), (.str [101, 120, 49]), (.str [101, 120, 50]), (.str [97, 108, 108, 48]), (.str [97, 108, 108, 49]), (.str [97, 108, 108, 50]), (.str [118, 97, 114, 48]), (.str [118, 97, 114, 49]), (.str [118, 97, 114, 50]), (.str [112, 114, 101, 100]), (.str [105, 110]), (.str [110, 111, 116, 105, 110]), (.str [115, 117, 98]), (.str [117, 110, 105, 111, 110]), (.str [105, 110, 116, 101, 114])] (fun b1 h2 => some ((.slice (some (b1, 0)) 17 (some 17)), h2))
def S127 (N : Nat) (call : CT) (h : H) : R := S127_0 call h
theorem R127_0 (N : Nat) (call : CT) (h : H) : body Tryz.prog N call Tryz.f127 A127.an [] h = S127_0 call h := by kernel_rfl
theorem Z127 (N : Nat) (call : CT) (h : H) : body Tryz.prog N call Tryz.f127 A127.an [] h = S127 N call h := by
  have r := R127_0 N call h
  have z : S127_0 call h = S127 N call h := by kernel_rfl
  exact r.trans z
theorem V127 (N : Nat) (call : CT) (vs : List AV) (h : H) : body Tryz.prog N call Tryz.f127 A127.an vs h = row0 (S127 N call h) vs := wrap0 (by kernel_rfl) (Z127 N call h) vs
/- (*sibyl/sibylref4.parser).un -/
def A128.a0 : Ann := .items [.opL 0]
def A128.a1 : Ann := .items [.op 0, .op 1, .op 2, .op 3]
def A128.a2 : Ann := .items [.op 0, .op 1]
def A128.a3 : Ann := .leaf
def A128.a4 : Ann := .two A128.a2 A128.a3
def A128.a5 : Ann := .leaf
def A128.a6 : Ann := .two A128.a4 A128.a5
def A128.a7 : Ann := .two A128.a1 A128.a6
def A128.a8 : Ann := .items [.op 0, .op 1, .opL 2, .op 3]
def A128.a9 : Ann := .items [.op 0, .op 1, .op 2, .op 3, .op 4, .op 5]
def A128.a10 : Ann := .items [.op 0, .op 1, .op 2]
def A128.a11 : Ann := .drawn [.op 2, .op 3, .op 4, .op 5, .op 6, .op 0, .op 1, .op 7, .op 8]
def A128.a12 : Ann := .leaf
def A128.a13 : Ann := .two A128.a11 A128.a12
def A128.a14 : Ann := .items [.op 0, .op 1, .op 2, .split 35, .op 3, .op 4, .op 5, .op 6]
def A128.a15 : Ann := .items [.op 0, .op 1]
def A128.a16 : Ann := .drawn [.op 3, .op 4, .op 0, .op 1, .op 2, .op 5, .op 6, .opL 7, .op 8]
def A128.a17 : Ann := .items [.op 0, .op 1]
def A128.a18 : Ann := .items [.op 0, .op 1, .op 2, .op 3, .op 4]
def A128.a19 : Ann := .leaf
def A128.a20 : Ann := .two A128.a18 A128.a19
def A128.a21 : Ann := .two A128.a17 A128.a20
def A128.a22 : Ann := .items [.op 0, .op 1]
def A128.a23 : Ann := .items [.op 0, .op 1, .op 2, .op 3, .op 4, .op 5, .op 6]
def A128.a24 : Ann := .items [.op 0, .op 1]
def A128.a25 : Ann := .leaf
def A128.a26 : Ann := .two A128.a24 A128.a25
def A128.a27 : Ann := .two A128.a23 A128.a26
def A128.a28 : Ann := .two A128.a22 A128.a27
def A128.a29 : Ann := .join [0, 1, 4, 8] [4, 8] A128.a21 A128.a28
def A128.a30 : Ann := .two A128.a16 A128.a29
def A128.a31 : Ann := .two A128.a15 A128.a30
def A128.a32 : Ann := .items [.op 0, .op 1, .op 2]
def A128.a33 : Ann := .leaf
def A128.a34 : Ann := .items [.op 0, .op 1, .op 2]
def A128.a35 : Ann := .two A128.a33 A128.a34
def A128.a36 : Ann := .two A128.a32 A128.a35
def A128.a37 : Ann := .items [.op 0, .op 1]
def A128.a38 : Ann := .items [.op 0, .op 1, .op 2, .op 3, .op 4, .op 5]
def A128.a39 : Ann := .leaf
def A128.a40 : Ann := .two A128.a38 A128.a39
def A128.a41 : Ann := .two A128.a37 A128.a40
def A128.a42 : Ann := .items [.op 0, .op 1, .op 2]
def A128.a43 : Ann := .items [.op 0, .op 1, .op 2, .op 3, .opL 4, .op 5]
def A128.a44 : Ann := .items [.op 0, .op 1]
def A128.a45 : Ann := .items [.op 0, .op 1]
def A128.a46 : Ann := .leaf
def A128.a47 : Ann := .two A128.a45 A128.a46
def A128.a48 : Ann := .two A128.a44 A128.a47
def A128.a49 : Ann := .two A128.a43 A128.a48
def A128.a50 : Ann := .leaf
def A128.a51 : Ann := .two A128.a49 A128.a50
def A128.a52 : Ann := .two A128.a42 A128.a51
def A128.a53 : Ann := .two A128.a41 A128.a52
def A128.a54 : Ann := .join [0, 1, 4, 5, 62] [4, 5] A128.a36 A128.a53
def A128.a55 : Ann := .two A128.a31 A128.a54
def A128.a56 : Ann := .join [0, 1, 4, 5, 6, 7, 32] [4, 5] A128.a14 A128.a55
def A128.a57 : Ann := .two A128.a13 A128.a56
def A128.a58 : Ann := .two A128.a10 A128.a57
def A128.a59 : Ann := .one A128.a58
def A128.a60 : Ann := .items [.op 0, .op 1, .op 2]
def A128.a61 : Ann := .leaf
def A128.a62 : Ann := .two A128.a60 A128.a61
def A128.a63 : Ann := .join [0, 4] [4] A128.a59 A128.a62
def A128.a64 : Ann := .two A128.a9 A128.a63
def A128.a65 : Ann := .two A128.a8 A128.a64
def A128.a66 : Ann := .two A128.a7 A128.a65
def A128.an : Ann := .two A128.a0 A128.a66
def E128_1 (N : Nat) (call : CT) : K3 :=
  (codeK Tryz.prog N call (c2 (c2 (c2 (c2 (c2 (bodyOf Tryz.f128)))))) A128.a62 (resK Tryz.prog Tryz.f128.results.toList) (fun _ _ _ _ => none) (resK Tryz.prog Tryz.f128.results.toList))
def E128_2 (N : Nat) (call : CT) : K3 :=
  (codeK Tryz.prog N call (c2 (c2 (c2 (c1 (c1 (c2 (c2 (c2 (c2 (bodyOf Tryz.f128)))))))))) A128.a55 (fun T L h => (E128_1 N call) (keepT [0, 4] T) (keepL [4] L) h) (fun i T L h => match Nat.beq i 0 with | true => (fun T L h => (E128_1 N call) (keepT [0, 4] T) (keepL [4] L) h) T L h | false => (fun _ _ _ _ => none) i T L h) (resK Tryz.prog Tryz.f128.results.toList))
def E128_3 (N : Nat) (call : CT) : K3 :=
  (codeK Tryz.prog N call (c2 (c2 (c2 (c1 (c2 (c2 (c2 (c1 (c1 (c2 (c2 (c2 (c2 (bodyOf Tryz.f128)))))))))))))) A128.a28 (fun T L h => (E128_1 N call) (keepT [0, 4] T) (keepL [4] L) h) (fun i T L h => match Nat.beq i 0 with | true => (fun T L h => (E128_1 N call) (keepT [0, 4] T) (keepL [4] L) h) T L h | false => (fun _ _ _ _ => none) i T L h) (resK Tryz.prog Tryz.f128.results.toList))
def E128_4 (N : Nat) (call : CT) : K3 :=
  (codeK Tryz.prog N call (c2 (c2 (c2 (c2 (c2 (c1 (c1 (c2 (c2 (c2 (c2 (bodyOf Tryz.f128)))))))))))) A128.a53 (fun T L h => (E128_1 N call) (keepT [0, 4] T) (keepL [4] L) h) (fun i T L h => match Nat.beq i 0 with | true => (fun T L h => (E128_1 N call) (keepT [0, 4] T) (keepL [4] L) h) T L h | false => (fun _ _ _ _ => none) i T L h) (resK Tryz.prog Tryz.f128.results.toList))
def S128_1 (call : CT) (x_0 : OA) (l4_0 l4_1 : AV) (l4_2 l4_3 l4_4 : AV) (h : H) : R :=
  bindR (call 141 [(.ptr x_0)] h) (fun v1 h2 => onAgR v1 (fun l8 => row5 (fun x3 x4 x5 x6 x7 => some ((.agg [x3, x4, x5, x6, x7]), h2)) l8))
def S128_2 (call : CT) (k3 : OA → Int → AV → AV → AV → AV → AV → AV → AV → AV → AV → AV → H → R) (k4 : OA → Int → Bool → AV → AV → AV → AV → AV → AV → AV → AV → AV → H → R) (x_0 : OA) (x_1 x_6 x_7 : Int) (x_32 : Bool) (l4_0 l4_1 : AV) (l4_2 l4_3 : AV) (l4_4 l5_0 : AV) (l5_1 l5_2 l5_3 : AV) (h : H) : R :=
  ifB x_32 (bindR (call 55 [(.ptr x_0)] h) (fun v1 h2 => onAgR v1 (fun l7 => row4 (fun x3 x4 x5 x6 => bindR (call 56 [(.ptr x_0)] h2) (fun v8 h9 => onAgR v8 (fun l14 => row4 (fun x10 x11 x12 x13 => guardB (sameAV l5_3 l5_3) (onInt .i64 l5_3 (fun i15 => onStr x11 (fun s16 => ifB (ltI x_6 (Int.ofNat 0)) (k3 x_0 x_1 l4_0 l4_1 l4_2 l4_3 l4_4 (.str [97, 108, 108]) (.str s16) (.int .i64 x_7) (.int .i64 i15) (.slice none 0 (some 0)) h9) (k3 x_0 x_1 l4_0 l4_1 l4_2 l4_3 l4_4 (.str [101, 120]) (.str s16) (.int .i64 x_6) (.int .i64 i15) (.slice none 0 (some 0)) h9))))) l14))) l7))) (bindR (call 28 [(.ptr x_0), (.str [116, 114, 117, 101])] h) (fun v17 h18 => onBool v17 (fun e19 => ifB e19 (k4 x_0 x_1 e19 l4_0 l4_1 l4_2 l4_3 l4_4 l5_0 l5_1 l5_2 l5_3 h18) (bindR (call 28 [(.ptr x_0), (.str [102, 97, 108, 115, 101])] h18) (fun v20 h21 => onBool v20 (fun e22 => k4 x_0 x_1 e22 l4_0 l4_1 l4_2 l4_3 l4_4 l5_0 l5_1 l5_2 l5_3 h21))))))
def S128_3 (call : CT) (x_0 : OA) (x_1 : Int) (l4_0 l4_1 : AV) (l4_2 l4_3 : AV) (l4_4 l8_0 : AV) (l8_1 l8_2 : AV) (l8_3 l8_4 : AV) (h : H) : R :=
  bindR (call 33 [(.ptr x_0), (.str [58])] h) (fun v1 h2 => bindR (call 32 [(.ptr x_0), (.int .i64 (wrapF .i64 (Int.add x_1 (Int.ofNat 1))))] h2) (fun v3 h4 => onAgR v3 (fun l10 => row5 (fun x5 x6 x7 x8 x9 => newK h4 [x5, x6, x7, x8, x9] (fun b11 h12 => some ((.agg [l8_0, l8_1, l8_2, l8_3, (.slice (some (b11, 0)) 1 (some 1))]), h12))) l10)))
def S128_4 (call : CT) (k1 : OA → AV → AV → AV → AV → AV → H → R) (x_0 : OA) (x_1 : Int) (x_62 : Bool) (l4_0 l4_1 : AV) (l4_2 l4_3 : AV) (l4_4 l5_0 : AV) (l5_1 l5_2 l5_3 : AV) (h : H) : R :=
  ifB x_62 (bindR (call 55 [(.ptr x_0)] h) (fun v1 h2 => onAgR v1 (fun l7 => row4 (fun x3 x4 x5 x6 => onStr l5_1 (fun s8 => onInt .i64 l5_3 (fun i9 => some ((.agg [(.str s8), (.str []), (.int .i64 (Int.ofNat 0)), (.int .i64 i9), (.slice none 0 (some 0))]), h2)))) l7))) (bindR (call 58 [(.ptr x_0), (.str [40])] h) (fun v10 h11 => onBool v10 (fun e12 => ifB e12 (bindR (call 32 [(.ptr x_0), (.int .i64 (wrapF .i64 (Int.add x_1 (Int.ofNat 1))))] h11) (fun v13 h14 => onAgR v13 (fun l20 => row5 (fun x15 x16 x17 x18 x19 => bindR (call 33 [(.ptr x_0), (.str [41])] h14) (fun v21 h22 => some ((.agg [x15, x16, x17, x18, x19]), h22))) l20))) (k1 x_0 l4_0 l4_1 l4_2 l4_3 l4_4 h11))))
def S128_0 (call : CT) (k2 : OA → Int → Int → Int → Bool → AV → AV → AV → AV → AV → AV → AV → AV → AV → H → R) (y0 y1 : AV) (h : H) : R :=
  onPtr y0 (fun p1 => onInt .i64 y1 (fun i2 => bindR (call 59 [(.ptr p1), (.int .i64 i2)] h) (fun v3 h4 => onBool v3 (fun e5 => ifB (!e5) (some ((.agg [(.str []), (.str []), (.int .i64 (Int.ofNat 0)), (.int .i64 (Int.ofNat 0)), (.slice none 0 (some 0))]), h4)) (bindR (call 34 [(.ptr p1)] h4) (fun v6 h7 => onAgR v6 (fun l12 => row4 (fun x8 x9 x10 x11 => bindR (call 29 [(.ptr p1), (.str [101, 120])] h7) (fun v13 h14 => onInt .i64 v13 (fun i15 => bindR (call 29 [(.ptr p1), (.str [97, 108, 108])] h14) (fun v16 h17 => onInt .i64 v16 (fun i18 => bindR (call 58 [(.ptr p1), (.str [126])] h17) (fun v19 h20 => onBool v19 (fun e21 => ifB e21 (bindR (call 128 [(.ptr p1), (.int .i64 (wrapF .i64 (Int.add i2 (Int.ofNat 1))))] h20) (fun v22 h23 => onAgR v22 (fun l29 => row5 (fun x24 x25 x26 x27 x28 => newK h23 [x24, x25, x26, x27, x28] (fun b30 h31 => guardB (sameAV x11 x11) (guardB (sameAV x11 x11) (onInt .i64 x11 (fun i32 => some ((.agg [(.str [110, 111, 116]), (.str []), (.int .i64 (Int.ofNat 0)), (.int .i64 i32), (.slice (some (b30, 0)) 1 (some 1))]), h31)))))) l29))) (ifB (leI (Int.ofNat 0) i15) (k2 p1 i2 i15 i18 true (.str []) (.str []) (.int .i64 (Int.ofNat 0)) (.int .i64 (Int.ofNat 0)) (.slice none 0 (some 0)) x8 x9 x10 x11 h20) (k2 p1 i2 i15 i18 (leI (Int.ofNat 0) i18) (.str []) (.str []) (.int .i64 (Int.ofNat 0)) (.int .i64 (Int.ofNat 0)) (.slice none 0 (some 0)) x8 x9 x10 x11 h20))))))))) l12)))))))
def C128_1 (N : Nat) (call : CT) : OA → AV → AV → AV → AV → AV → H → R := S128_1 call
def C128_3 (N : Nat) (call : CT) : OA → Int → AV → AV → AV → AV → AV → AV → AV → AV → AV → AV → H → R := S128_3 call
def C128_4 (N : Nat) (call : CT) : OA → Int → Bool → AV → AV → AV → AV → AV → AV → AV → AV → AV → H → R := S128_4 call (C128_1 N call)
def C128_2 (N : Nat) (call : CT) : OA → Int → Int → Int → Bool → AV → AV → AV → AV → AV → AV → AV → AV → AV → H → R := S128_2 call (C128_3 N call) (C128_4 N call)
def S128 (N : Nat) (call : CT) (y0 y1 : AV) (h : H) : R := S128_0 call (C128_2 N call) y0 y1 h
def T128_1 (x_0 : OA) (l4_0 l4_1 : AV) (l4_2 l4_3 l4_4 : AV) : LF := [(some (.v (.ptr x_0))), oo, oo, oo, (some (.lptr 4 0)), oo, oo, oo, oo, oo, oo, oo, oo, oo, oo, oo, oo, oo, oo, oo, oo, oo, oo, oo, oo, oo, oo, oo, oo, oo, oo, oo, oo, oo, oo, oo, oo, oo, oo, oo, oo, oo, oo, oo, oo, oo, oo, oo, oo, oo, oo, oo, oo, oo, oo, oo, oo, oo, oo, oo, oo, oo, oo, oo, oo, oo, oo, oo, oo, oo, oo, oo, oo, oo, oo, oo, oo, oo, oo, oo, oo, oo, oo, oo, oo, oo]
def L128_1 (x_0 : OA) (l4_0 l4_1 : AV) (l4_2 l4_3 l4_4 : AV) : LL := [oo, oo, oo, oo, (some (.cells [l4_0, l4_1, l4_2, l4_3, l4_4])), oo, oo, oo, oo, oo, oo, oo, oo, oo, oo, oo, oo, oo, oo, oo, oo, oo, oo, oo, oo, oo, oo, oo, oo, oo, oo, oo, oo, oo, oo, oo, oo, oo, oo, oo, oo, oo, oo, oo, oo, oo, oo, oo, oo, oo, oo, oo, oo, oo, oo, oo, oo, oo, oo, oo, oo, oo, oo, oo, oo, oo, oo, oo, oo, oo, oo, oo, oo, oo, oo, oo, oo, oo, oo, oo, oo, oo, oo, oo, oo, oo]
def T128_2 (x_0 : OA) (x_1 x_6 x_7 : Int) (x_32 : Bool) (l4_0 l4_1 : AV) (l4_2 l4_3 : AV) (l4_4 l5_0 : AV) (l5_1 l5_2 l5_3 : AV) : LF := [(some (.v (.ptr x_0))), (some (.v (.int .i64 x_1))), none, none, (some (.lptr 4 0)), (some (.lptr 5 0)), (some (.v (.int .i64 x_6))), (some (.v (.int .i64 x_7))), oo, oo, oo, oo, oo, oo, oo, oo, oo, oo, oo, oo, oo, oo, oo, oo, oo, oo, oo, oo, oo, oo, oo, oo, (some (.v (.bool x_32))), oo, oo, oo, oo, oo, oo, oo, oo, oo, oo, oo, oo, oo, oo, oo, oo, oo, oo, oo, oo, oo, oo, oo, oo, oo, oo, oo, oo, oo, oo, oo, oo, oo, oo, oo, oo, oo, oo, oo, oo, oo, oo, oo, oo, oo, oo, oo, oo, oo, oo, oo, oo, oo]
def L128_2 (x_0 : OA) (x_1 x_6 x_7 : Int) (x_32 : Bool) (l4_0 l4_1 : AV) (l4_2 l4_3 : AV) (l4_4 l5_0 : AV) (l5_1 l5_2 l5_3 : AV) : LL := [oo, oo, oo, oo, (some (.cells [l4_0, l4_1, l4_2, l4_3, l4_4])), (some (.cells [l5_0, l5_1, l5_2, l5_3])), oo, oo, oo, oo, oo, oo, oo, oo, oo, oo, oo, oo, oo, oo, oo, oo, oo, oo, oo, oo, oo, oo, oo, oo, oo, oo, oo, oo, oo, oo, oo, oo, oo, oo, oo, oo, oo, oo, oo, oo, oo, oo, oo, oo, oo, oo, oo, oo, oo, oo, oo, oo, oo, oo, oo, oo, oo, oo, oo, oo, oo, oo, oo, oo, oo, oo, oo, oo, oo, oo, oo, oo, oo, oo, oo, oo, oo, oo, oo, oo]
def T128_3 (x_0 : OA) (x_1 : Int) (l4_0 l4_1 : AV) (l4_2 l4_3 : AV) (l4_4 l8_0 : AV) (l8_1 l8_2 : AV) (l8_3 l8_4 : AV) : LF := [(some (.v (.ptr x_0))), (some (.v (.int .i64 x_1))), none, none, (some (.lptr 4 0)), oo, oo, oo, (some (.lptr 8 0)), oo, oo, oo, oo, oo, oo, oo, oo, oo, oo, oo, oo, oo, oo, oo, oo, oo, oo, oo, oo, oo, oo, oo, oo, oo, oo, oo, oo, oo, oo, oo, oo, oo, oo, oo, oo, oo, oo, oo, oo, oo, oo, oo, oo, oo, oo, oo, oo, oo, oo, oo, oo, oo, oo, oo, oo, oo, oo, oo, oo, oo, oo, oo, oo, oo, oo, oo, oo, oo, oo, oo, oo, oo, oo, oo, oo, oo]
def L128_3 (x_0 : OA) (x_1 : Int) (l4_0 l4_1 : AV) (l4_2 l4_3 : AV) (l4_4 l8_0 : AV) (l8_1 l8_2 : AV) (l8_3 l8_4 : AV) : LL := [oo, oo, oo, oo, (some (.cells [l4_0, l4_1, l4_2, l4_3, l4_4])), oo, oo, oo, (some (.cells [l8_0, l8_1, l8_2, l8_3, l8_4])), oo, oo, oo, oo, oo, oo, oo, oo, oo, oo, oo, oo, oo, oo, oo, oo, oo, oo, oo, oo, oo, oo, oo, oo, oo, oo, oo, oo, oo, oo, oo, oo, oo, oo, oo, oo, oo, oo, oo, oo, oo, oo, oo, oo, oo, oo, oo, oo, oo, oo, oo, oo, oo, oo, oo, oo, oo, oo, oo, oo, oo, oo, oo, oo, oo, oo, oo, oo, oo, oo, oo, oo, oo, oo, oo, oo, oo]
def T128_4 (x_0 : OA) (x_1 : Int) (x_62 : Bool) (l4_0 l4_1 : AV) (l4_2 l4_3 : AV) (l4_4 l5_0 : AV) (l5_1 l5_2 l5_3 : AV) : LF := [(some (.v (.ptr x_0))), (some (.v (.int .i64 x_1))), none, none, (some (.lptr 4 0)), (some (.lptr 5 0)), oo, oo, oo, oo, oo, oo, oo, oo, oo, oo, oo, oo, oo, oo, oo, oo, oo, oo, oo, oo, oo, oo, oo, oo, oo, oo, oo, oo, oo, oo, oo, oo, oo, oo, oo, oo, oo, oo, oo, oo, oo, oo, oo, oo, oo, oo, oo, oo, oo, oo, oo, oo, oo, oo, oo, oo, (some (.v (.bool x_62))), oo, oo, oo, oo, oo, oo, oo, oo, oo, oo, oo, oo, oo, oo, oo, oo, oo, oo, oo, oo, oo, oo, oo]
def L128_4 (x_0 : OA) (x_1 : Int) (x_62 : Bool) (l4_0 l4_1 : AV) (l4_2 l4_3 : AV) (l4_4 l5_0 : AV) (l5_1 l5_2 l5_3 : AV) : LL := [oo, oo, oo, oo, (some (.cells [l4_0, l4_1, l4_2, l4_3, l4_4])), (some (.cells [l5_0, l5_1, l5_2, l5_3])), oo, oo, oo, oo, oo, oo, oo, oo, oo, oo, oo, oo, oo, oo, oo, oo, oo, oo, oo, oo, oo, oo, oo, oo, oo, oo, oo, oo, oo, oo, oo, oo, oo, oo, oo, oo, oo, oo, oo, oo, oo, oo, oo, oo, oo, oo, oo, oo, oo, oo, oo, oo, oo, oo, oo, oo, oo, oo, oo, oo, oo, oo, oo, oo, oo, oo, oo, oo, oo, oo, oo, oo, oo, oo, oo, oo, oo, oo, oo, oo]
theorem R128_1 (N : Nat) (call : CT) (x_0 : OA) (l4_0 l4_1 : AV) (l4_2 l4_3 l4_4 : AV) (h : H) : E128_1 N call (T128_1 x_0 l4_0 l4_1 l4_2 l4_3 l4_4) (L128_1 x_0 l4_0 l4_1 l4_2 l4_3 l4_4) h = S128_1 call x_0 l4_0 l4_1 l4_2 l4_3 l4_4 h := by kernel_rfl
theorem Z128_1 (N : Nat) (call : CT) (x_0 : OA) (l4_0 l4_1 : AV) (l4_2 l4_3 l4_4 : AV) (h : H) : E128_1 N call (T128_1 x_0 l4_0 l4_1 l4_2 l4_3 l4_4) (L128_1 x_0 l4_0 l4_1 l4_2 l4_3 l4_4) h = C128_1 N call x_0 l4_0 l4_1 l4_2 l4_3 l4_4 h := by
  have r := R128_1 N call x_0 l4_0 l4_1 l4_2 l4_3 l4_4 h
  have z : S128_1 call x_0 l4_0 l4_1 l4_2 l4_3 l4_4 h = C128_1 N call x_0 l4_0 l4_1 l4_2 l4_3 l4_4 h := by kernel_rfl
  exact r.trans z
theorem R128_3 (N : Nat) (call : CT) (x_0 : OA) (x_1 : Int) (l4_0 l4_1 : AV) (l4_2 l4_3 : AV) (l4_4 l8_0 : AV) (l8_1 l8_2 : AV) (l8_3 l8_4 : AV) (h : H) : E128_3 N call (T128_3 x_0 x_1 l4_0 l4_1 l4_2 l4_3 l4_4 l8_0 l8_1 l8_2 l8_3 l8_4) (L128_3 x_0 x_1 l4_0 l4_1 l4_2 l4_3 l4_4 l8_0 l8_1 l8_2 l8_3 l8_4) h = S128_3 call x_0 x_1 l4_0 l4_1 l4_2 l4_3 l4_4 l8_0 l8_1 l8_2 l8_3 l8_4 h := by kernel_rfl
theorem Z128_3 (N : Nat) (call : CT) (x_0 : OA) (x_1 : Int) (l4_0 l4_1 : AV) (l4_2 l4_3 : AV) (l4_4 l8_0 : AV) (l8_1 l8_2 : AV) (l8_3 l8_4 : AV) (h : H) : E128_3 N call (T128_3 x_0 x_1 l4_0 l4_1 l4_2 l4_3 l4_4 l8_0 l8_1 l8_2 l8_3 l8_4) (L128_3 x_0 x_1 l4_0 l4_1 l4_2 l4_3 l4_4 l8_0 l8_1 l8_2 l8_3 l8_4) h = C128_3 N call x_0 x_1 l4_0 l4_1 l4_2 l4_3 l4_4 l8_0 l8_1 l8_2 l8_3 l8_4 h := by
  have r := R128_3 N call x_0 x_1 l4_0 l4_1 l4_2 l4_3 l4_4 l8_0 l8_1 l8_2 l8_3 l8_4 h
  have z : S128_3 call x_0 x_1 l4_0 l4_1 l4_2 l4_3 l4_4 l8_0 l8_1 l8_2 l8_3 l8_4 h = C128_3 N call x_0 x_1 l4_0 l4_1 l4_2 l4_3 l4_4 l8_0 l8_1 l8_2 l8_3 l8_4 h := by kernel_rfl
  exact r.trans z
theorem R128_4 (N : Nat) (call : CT) (x_0 : OA) (x_1 : Int) (x_62 : Bool) (l4_0 l4_1 : AV) (l4_2 l4_3 : AV) (l4_4 l5_0 : AV) (l5_1 l5_2 l5_3 : AV) (h : H) : E128_4 N call (T128_4 x_0 x_1 x_62 l4_0 l4_1 l4_2 l4_3 l4_4 l5_0 l5_1 l5_2 l5_3) (L128_4 x_0 x_1 x_62 l4_0 l4_1 l4_2 l4_3 l4_4 l5_0 l5_1 l5_2 l5_3) h = S128_4 call (fun (x_0 : OA) (l4_0 l4_1 : AV) (l4_2 l4_3 l4_4 : AV) h => (E128_1 N call) (T128_1 x_0 l4_0 l4_1 l4_2 l4_3 l4_4) (L128_1 x_0 l4_0 l4_1 l4_2 l4_3 l4_4) h) x_0 x_1 x_62 l4_0 l4_1 l4_2 l4_3 l4_4 l5_0 l5_1 l5_2 l5_3 h := by kernel_rfl
theorem Z128_4 (N : Nat) (call : CT) (x_0 : OA) (x_1 : Int) (x_62 : Bool) (l4_0 l4_1 : AV) (l4_2 l4_3 : AV) (l4_4 l5_0 : AV) (l5_1 l5_2 l5_3 : AV) (h : H) : E128_4 N call (T128_4 x_0 x_1 x_62 l4_0 l4_1 l4_2 l4_3 l4_4 l5_0 l5_1 l5_2 l5_3) (L128_4 x_0 x_1 x_62 l4_0 l4_1 l4_2 l4_3 l4_4 l5_0 l5_1 l5_2 l5_3) h = C128_4 N call x_0 x_1 x_62 l4_0 l4_1 l4_2 l4_3 l4_4 l5_0 l5_1 l5_2 l5_3 h := by
  have e1 : (fun (x_0 : OA) (l4_0 l4_1 : AV) (l4_2 l4_3 l4_4 : AV) h => (E128_1 N call) (T128_1 x_0 l4_0 l4_1 l4_2 l4_3 l4_4) (L128_1 x_0 l4_0 l4_1 l4_2 l4_3 l4_4) h) = (C128_1 N call) := by
    funext x_0 l4_0 l4_1 l4_2 l4_3 l4_4 h
    exact Z128_1 N call x_0 l4_0 l4_1 l4_2 l4_3 l4_4 h
  have r := R128_4 N call x_0 x_1 x_62 l4_0 l4_1 l4_2 l4_3 l4_4 l5_0 l5_1 l5_2 l5_3 h
  rw [e1] at r
  have z : S128_4 call (C128_1 N call) x_0 x_1 x_62 l4_0 l4_1 l4_2 l4_3 l4_4 l5_0 l5_1 l5_2 l5_3 h = C128_4 N call x_0 x_1 x_62 l4_0 l4_1 l4_2 l4_3 l4_4 l5_0 l5_1 l5_2 l5_3 h := by kernel_rfl
  exact r.trans z
theorem R128_2 (N : Nat) (call : CT) (x_0 : OA) (x_1 x_6 x_7 : Int) (x_32 : Bool) (l4_0 l4_1 : AV) (l4_2 l4_3 : AV) (l4_4 l5_0 : AV) (l5_1 l5_2 l5_3 : AV) (h : H) : E128_2 N call (T128_2 x_0 x_1 x_6 x_7 x_32 l4_0 l4_1 l4_2 l4_3 l4_4 l5_0 l5_1 l5_2 l5_3) (L128_2 x_0 x_1 x_6 x_7 x_32 l4_0 l4_1 l4_2 l4_3 l4_4 l5_0 l5_1 l5_2 l5_3) h = S128_2 call (fun (x_0 : OA) (x_1 : Int) (l4_0 l4_1 : AV) (l4_2 l4_3 : AV) (l4_4 l8_0 : AV) (l8_1 l8_2 : AV) (l8_3 l8_4 : AV) h => (E128_3 N call) (T128_3 x_0 x_1 l4_0 l4_1 l4_2 l4_3 l4_4 l8_0 l8_1 l8_2 l8_3 l8_4) (L128_3 x_0 x_1 l4_0 l4_1 l4_2 l4_3 l4_4 l8_0 l8_1 l8_2 l8_3 l8_4) h) (fun (x_0 : OA) (x_1 : Int) (x_62 : Bool) (l4_0 l4_1 : AV) (l4_2 l4_3 : AV) (l4_4 l5_0 : AV) (l5_1 l5_2 l5_3 : AV) h => (E128_4 N call) (T128_4 x_0 x_1 x_62 l4_0 l4_1 l4_2 l4_3 l4_4 l5_0 l5_1 l5_2 l5_3) (L128_4 x_0 x_1 x_62 l4_0 l4_1 l4_2 l4_3 l4_4 l5_0 l5_1 l5_2 l5_3) h) x_0 x_1 x_6 x_7 x_32 l4_0 l4_1 l4_2 l4_3 l4_4 l5_0 l5_1 l5_2 l5_3 h := by kernel_rfl
theorem Z128_2 (N : Nat) (call : CT) (x_0 : OA) (x_1 x_6 x_7 : Int) (x_32 : Bool) (l4_0 l4_1 : AV) (l4_2 l4_3 : AV) (l4_4 l5_0 : AV) (l5_1 l5_2 l5_3 : AV) (h : H) : E128_2 N call (T128_2 x_0 x_1 x_6 x_7 x_32 l4_0 l4_1 l4_2 l4_3 l4_4 l5_0 l5_1 l5_2 l5_3) (L128_2 x_0 x_1 x_6 x_7 x_32 l4_0 l4_1 l4_2 l4_3 l4_4 l5_0 l5_1 l5_2 l5_3) h = C128_2 N call x_0 x_1 x_6 x_7 x_32 l4_0 l4_1 l4_2 l4_3 l4_4 l5_0 l5_1 l5_2 l5_3 h := by
  have e3 : (fun (x_0 : OA) (x_1 : Int) (l4_0 l4_1 : AV) (l4_2 l4_3 : AV) (l4_4 l8_0 : AV) (l8_1 l8_2 : AV) (l8_3 l8_4 : AV) h => (E128_3 N call) (T128_3 x_0 x_1 l4_0 l4_1 l4_2 l4_3 l4_4 l8_0 l8_1 l8_2 l8_3 l8_4) (L128_3 x_0 x_1 l4_0 l4_1 l4_2 l4_3 l4_4 l8_0 l8_1 l8_2 l8_3 l8_4) h) = (C128_3 N call) := by
    funext x_0 x_1 l4_0 l4_1 l4_2 l4_3 l4_4 l8_0 l8_1 l8_2 l8_3 l8_4 h
    exact Z128_3 N call x_0 x_1 l4_0 l4_1 l4_2 l4_3 l4_4 l8_0 l8_1 l8_2 l8_3 l8_4 h
  have e4 : (fun (x_0 : OA) (x_1 : Int) (x_62 : Bool) (l4_0 l4_1 : AV) (l4_2 l4_3 : AV) (l4_4 l5_0 : AV) (l5_1 l5_2 l5_3 : AV) h => (E128_4 N call) (T128_4 x_0 x_1 x_62 l4_0 l4_1 l4_2 l4_3 l4_4 l5_0 l5_1 l5_2 l5_3) (L128_4 x_0 x_1 x_62 l4_0 l4_1 l4_2 l4_3 l4_4 l5_0 l5_1 l5_2 l5_3) h) = (C128_4 N call) := by
    funext x_0 x_1 x_62 l4_0 l4_1 l4_2 l4_3 l4_4 l5_0 l5_1 l5_2 l5_3 h
    exact Z128_4 N call x_0 x_1 x_62 l4_0 l4_1 l4_2 l4_3 l4_4 l5_0 l5_1 l5_2 l5_3 h
  have r := R128_2 N call x_0 x_1 x_6 x_7 x_32 l4_0 l4_1 l4_2 l4_3 l4_4 l5_0 l5_1 l5_2 l5_3 h
  rw [e3, e4] at r
  have z : S128_2 call (C128_3 N call) (C128_4 N call) x_0 x_1 x_6 x_7 x_32 l4_0 l4_1 l4_2 l4_3 l4_4 l5_0 l5_1 l5_2 l5_3 h = C128_2 N call x_0 x_1 x_6 x_7 x_32 l4_0 l4_1 l4_2 l4_3 l4_4 l5_0 l5_1 l5_2 l5_3 h := by kernel_rfl
  exact r.trans z
theorem R128_0 (N : Nat) (call : CT) (y0 y1 : AV) (h : H) : body Tryz.prog N call Tryz.f128 A128.an [y0, y1] h = S128_0 call (fun (x_0 : OA) (x_1 x_6 x_7 : Int) (x_32 : Bool) (l4_0 l4_1 : AV) (l4_2 l4_3 : AV) (l4_4 l5_0 : AV) (l5_1 l5_2 l5_3 : AV) h => (E128_2 N call) (T128_2 x_0 x_1 x_6 x_7 x_32 l4_0 l4_1 l4_2 l4_3 l4_4 l5_0 l5_1 l5_2 l5_3) (L128_2 x_0 x_1 x_6 x_7 x_32 l4_0 l4_1 l4_2 l4_3 l4_4 l5_0 l5_1 l5_2 l5_3) h) y0 y1 h := by kernel_rfl
theorem Z128 (N : Nat) (call : CT) (y0 y1 : AV) (h : H) : body Tryz.prog N call Tryz.f128 A128.an [y0, y1] h = S128 N call y0 y1 h := by
  have e2 : (fun (x_0 : OA) (x_1 x_6 x_7 : Int) (x_32 : Bool) (l4_0 l4_1 : AV) (l4_2 l4_3 : AV) (l4_4 l5_0 : AV) (l5_1 l5_2 l5_3 : AV) h => (E128_2 N call) (T128_2 x_0 x_1 x_6 x_7 x_32 l4_0 l4_1 l4_2 l4_3 l4_4 l5_0 l5_1 l5_2 l5_3) (L128_2 x_0 x_1 x_6 x_7 x_32 l4_0 l4_1 l4_2 l4_3 l4_4 l5_0 l5_1 l5_2 l5_3) h) = (C128_2 N call) := by
    funext x_0 x_1 x_6 x_7 x_32 l4_0 l4_1 l4_2 l4_3 l4_4 l5_0 l5_1 l5_2 l5_3 h
    exact Z128_2 N call x_0 x_1 x_6 x_7 x_32 l4_0 l4_1 l4_2 l4_3 l4_4 l5_0 l5_1 l5_2 l5_3 h
  have r := R128_0 N call y0 y1 h
  rw [e2] at r
  have z : S128_0 call (C128_2 N call) y0 y1 h = S128 N call y0 y1 h := by kernel_rfl
  exact r.trans z
theorem V128 (N : Nat) (call : CT) (vs : List AV) (h : H) : body Tryz.prog N call Tryz.f128 A128.an vs h = row2 (fun y0 y1 => S128 N call y0 y1 h) vs := wrap2 (by kernel_rfl) (fun y0 y1 => Z128 N call y0 y1 h) vs
/- sibyl/runes.isOdd -/
def A129.a0 : Ann := .items [.op 0]
def A129.a1 : Ann := .items [.op 0, .op 1, .op 2, .split 9, .op 3, .op 4, .op 5, .op 6, .op 7, .op 8, .op 9]
def A129.a2 : Ann := .leaf
def A129.a3 : Ann := .two A129.a1 A129.a2
def A129.an : Ann := .two A129.a0 A129.a3
def S129_0 (call : CT) (y0 y1 y2 : AV) (h : H) : R :=
  onStr y0 (fun s1 => onInt .i64 y1 (fun i2 => onInt .i32 y2 (fun i3 => ifB (eqI i3 (Int.ofNat 65533)) (slcS s1 (some i2) none (fun s4 => bindR (call 142 [(.str s4), (.str [239, 191, 189])] h) (fun v5 h6 => onBool v5 (fun e7 => some ((.bool (!e7)), h6))))) (some ((.bool false), h)))))
def S129 (N : Nat) (call : CT) (y0 y1 y2 : AV) (h : H) : R := S129_0 call y0 y1 y2 h
theorem R129_0 (N : Nat) (call : CT) (y0 y1 y2 : AV) (h : H) : body Tryz.prog N call Tryz.f129 A129.an [y0, y1, y2] h = S129_0 call y0 y1 y2 h := by kernel_rfl
theorem Z129 (N : Nat) (call : CT) (y0 y1 y2 : AV) (h : H) : body Tryz.prog N call Tryz.f129 A129.an [y0, y1, y2] h = S129 N call y0 y1 y2 h := by
  have r := R129_0 N call y0 y1 y2 h
  have z : S129_0 call y0 y1 y2 h = S129 N call y0 y1 y2 h := by kernel_rfl
  exact r.trans z
theorem V129 (N : Nat) (call : CT) (vs : List AV) (h : H) : body Tryz.prog N call Tryz.f129 A129.an vs h = row3 (fun y0 y1 y2 => S129 N call y0 y1 y2 h) vs := wrap3 (by kernel_rfl) (fun y0 y1 y2 => Z129 N call y0 y1 y2 h) vs
/- (*sibyl/lex.lexer).class -/
def A130.a0 : Ann := .items [.op 0]
def A130.a1 : Ann := .drawn [.op 0, .op 1, .op 2, .op 3, .op 4, .op 5, .op 6, .op 7, .op 8, .op 9]
def A130.a2 : Ann := .items [.op 0]
def A130.a3 : Ann := .leaf
def A130.a4 : Ann := .two A130.a2 A130.a3
def A130.a5 : Ann := .leaf
def A130.a6 : Ann := .two A130.a4 A130.a5
def A130.a7 : Ann := .two A130.a1 A130.a6
def A130.a8 : Ann := .drawn [.op 0, .op 1, .op 2, .op 3, .op 4, .op 5, .op 6, .op 7, .op 8, .op 9, .op 10, .op 11, .op 12]
def A130.a9 : Ann := .leaf
def A130.a10 : Ann := .two A130.a8 A130.a9
def A130.a11 : Ann := .two A130.a7 A130.a10
def A130.an : Ann := .two A130.a0 A130.a11
def S130_0 (call : CT) (y0 : AV) (h : H) : R :=
  onPtr y0 (fun p1 => onSome p1 (fun b2 o3 => ldK h b2 (o3 + 3) 1 (one (fun v4 => onInt .i64 v4 (fun i5 => onSome p1 (fun b6 o7 => ldK h b6 (o7 + 1) 1 (one (fun v8 => onSlice v8 (fun a9 n10 c11 => ifB (leI (Int.ofNat n10) i5) (some ((.int .i64 (Int.negSucc 0)), h)) (onSome p1 (fun b12 o13 => ldK h b12 (o13 + 1) 1 (one (fun v14 => onSlice v14 (fun a15 n16 c17 => onSome p1 (fun b18 o19 => ldK h b18 (o19 + 3) 1 (one (fun v20 => onInt .i64 v20 (fun i21 => idxAddr 2 a15 n16 i21 (fun b22 o23 => ldK h b22 (o23 + 0) 1 (one (fun v24 => onInt .i32 v24 (fun i25 => bindR (call 143 [(.int .i32 i25)] h) (fun v26 h27 => onInt .i64 v26 (fun i28 => some ((.int .i64 i28), h27)))))))))))))))))))))))))
def S130 (N : Nat) (call : CT) (y0 : AV) (h : H) : R := S130_0 call y0 h
theorem R130_0 (N : Nat) (call : CT) (y0 : AV) (h : H) : body Tryz.prog N call Tryz.f130 A130.an [y0] h = S130_0 call y0 h := by kernel_rfl
theorem Z130 (N : Nat) (call : CT) (y0 : AV) (h : H) : body Tryz.prog N call Tryz.f130 A130.an [y0] h = S130 N call y0 h := by
  have r := R130_0 N call y0 h
  have z : S130_0 call y0 h = S130 N call y0 h := by kernel_rfl
  exact r.trans z
theorem V130 (N : Nat) (call : CT) (vs : List AV) (h : H) : body Tryz.prog N call Tryz.f130 A130.an vs h = row1 (fun y0 => S130 N call y0 h) vs := wrap1 (by kernel_rfl) (fun y0 => Z130 N call y0 h) vs
/- (*sibyl/lex.lexer).name -/
def A132.a0 : Ann := .items [.opL 0, .op 1]
def A132.a1 : Ann := .items [.op 0, .op 1, .op 2]
def A132.a2 : Ann := .items [.op 0, .op 1]
def A132.a3 : Ann := .leaf
def A132.a4 : Ann := .leaf
def A132.a5 : Ann := .two A132.a3 A132.a4
def A132.a6 : Ann := .two A132.a2 A132.a5
def A132.a7 : Ann := .items [.op 0, .op 1, .op 2, .op 3, .op 4, .op 5, .op 6, .op 7]
def A132.a8 : Ann := .one A132.a7
def A132.a9 : Ann := .two A132.a6 A132.a8
def A132.a10 : Ann := .meet [0, 2, 4] [2] A132.a9
def A132.a11 : Ann := .one A132.a10
def A132.a12 : Ann := .drawn [.op 5, .op 6, .op 0, .op 1, .op 2, .op 3, .op 4, .op 7, .op 8, .op 9, .opL 10, .op 11]
def A132.a13 : Ann := .drawn [.op 0, .op 1, .op 2, .op 3]
def A132.a14 : Ann := .items [.op 0, .op 1]
def A132.a15 : Ann := .leaf
def A132.a16 : Ann := .two A132.a14 A132.a15
def A132.a17 : Ann := .two A132.a13 A132.a16
def A132.a18 : Ann := .drawn [.op 1, .op 2, .op 3, .op 0, .op 5, .op 4, .op 6]
def A132.a19 : Ann := .leaf
def A132.a20 : Ann := .two A132.a18 A132.a19
def A132.a21 : Ann := .join [2, 5] [2, 5] A132.a17 A132.a20
def A132.a22 : Ann := .two A132.a12 A132.a21
def A132.a23 : Ann := .two A132.a11 A132.a22
def A132.a24 : Ann := .two A132.a1 A132.a23
def A132.an : Ann := .two A132.a0 A132.a24
def F132_1 (N : Nat) (call : CT) (self : K3) : K3 :=
  (codeK Tryz.prog N call (c1 (c1 (c1 (c2 (c2 (bodyOf Tryz.f132)))))) A132.a9 (fun T L h => self (keepT [0, 2, 4] T) (keepL [2] L) h) (fun i T L h => match Nat.beq i 0 with | true => (codeK Tryz.prog N call (c2 (c2 (c2 (bodyOf Tryz.f132)))) A132.a22 (resK Tryz.prog Tryz.f132.results.toList) (fun _ _ _ _ => none) (resK Tryz.prog Tryz.f132.results.toList)) T L h | false => (fun _ _ _ _ => none) i T L h) (resK Tryz.prog Tryz.f132.results.toList))
def E132_1 (N : Nat) (call : CT) : K3 := iter (F132_1 N call) N
def E132_2 (N : Nat) (call : CT) : K3 :=
  (codeK Tryz.prog N call (c2 (c2 (c2 (c2 (c2 (bodyOf Tryz.f132)))))) A132.a20 (resK Tryz.prog Tryz.f132.results.toList) (fun _ _ _ _ => none) (resK Tryz.prog Tryz.f132.results.toList))
def S132_1 (call : CT) (k1 : OA → Int → AV → AV → AV → AV → H → R) (k2 : AV → AV → AV → AV → AV → AV → AV → AV → H → R) (x_0 : OA) (x_4 : Int) (l2_0 l2_1 : AV) (l2_2 l2_3 : AV) (h : H) : R :=
  bindR (call 144 [(.ptr x_0)] h) (fun v1 h2 => onBool v1 (fun e3 => ifB e3 (onSome x_0 (fun b4 o5 => ldK h2 b4 (o5 + 3) 1 (one (fun v6 => onInt .i64 v6 (fun i7 => onSome x_0 (fun b8 o9 => stK h2 b8 (o9 + 3) [(.int .i64 (wrapF .i64 (Int.add i7 (Int.ofNat 1))))] (fun h10 => k1 x_0 x_4 l2_0 l2_1 l2_2 l2_3 h10))))))) (bindR (call 115 [(.ptr x_0)] h2) (fun v11 h12 => onInt .i64 v11 (fun i13 => onSome x_0 (fun b14 o15 => ldK h12 b14 (o15 + 0) 1 (one (fun v16 => ldK h2 b14 (o15 + 0) 1 (one (fun v17 => guardB (sameAV v16 v17) (onStr v16 (fun s18 => slcS s18 (some x_4) (some i13) (fun s19 => bindR (call 145 [] h12) (fun v20 h21 => onSlice v20 (fun a22 n23 c24 => guardB (sameAV (.str s19) (.str s19)) (bindR (call 139 [(.slice a22 n23 c24), (.str s19)] h21) (fun v25 h26 => onBool v25 (fun e27 => ifB e27 (k2 l2_0 l2_1 l2_2 l2_3 (.int .i64 (Int.ofNat 3)) (.str s19) (.int .i64 (Int.ofNat 0)) (.int .i64 x_4) h26) (k2 l2_0 l2_1 l2_2 l2_3 (.int .i64 (Int.ofNat 1)) (.str s19) (.int .i64 (Int.ofNat 0)) (.int .i64 x_4) h26)))))))))))))))))))
def S132_2 (call : CT) (l2_0 l2_1 : AV) (l2_2 l2_3 : AV) (l5_0 l5_1 : AV) (l5_2 l5_3 : AV) (h : H) : R :=
  onStr l5_1 (fun s1 => bindR (call 146 [(.str s1)] h) (fun v2 h3 => onInt .i64 v2 (fun i4 => guardB (sameAV (.agg [l5_0, l5_1, l5_2, l5_3]) (.agg [l5_0, l5_1, l5_2, l5_3])) (some (.tuple [(.agg [l5_0, l5_1, l5_2, l5_3]), (.bool (leI i4 (Int.ofNat 12)))], h3)))))
def S132_0 (call : CT) (k1 : OA → Int → AV → AV → AV → AV → H → R) (y0 : AV) (h : H) : R :=
  onPtr y0 (fun p1 => bindR (call 115 [(.ptr p1)] h) (fun v2 h3 => onInt .i64 v2 (fun i4 => k1 p1 i4 (.int .i64 (Int.ofNat 0)) (.str []) (.int .i64 (Int.ofNat 0)) (.int .i64 (Int.ofNat 0)) h3)))
def C132_2 (N : Nat) (call : CT) : AV → AV → AV → AV → AV → AV → AV → AV → H → R := S132_2 call
def B132_1 (N : Nat) (call : CT) (ih : OA → Int → AV → AV → AV → AV → H → R) : OA → Int → AV → AV → AV → AV → H → R := S132_1 call ih (C132_2 N call)
def I132_1 (N : Nat) (call : CT) (n : Nat) : OA → Int → AV → AV → AV → AV → H → R := Nat.rec (motive := fun _ => OA → Int → AV → AV → AV → AV → H → R) (fun _ _ _ _ _ _ _ => none) (fun _ ih => B132_1 N call ih) n
def C132_1 (N : Nat) (call : CT) : OA → Int → AV → AV → AV → AV → H → R := I132_1 N call N
def S132 (N : Nat) (call : CT) (y0 : AV) (h : H) : R := S132_0 call (C132_1 N call) y0 h
def T132_1 (x_0 : OA) (x_4 : Int) (l2_0 l2_1 : AV) (l2_2 l2_3 : AV) : LF := [(some (.v (.ptr x_0))), none, (some (.lptr 2 0)), none, (some (.v (.int .i64 x_4))), oo, oo, oo, oo, oo, oo, oo, oo, oo, oo, oo, oo, oo, oo, oo, oo, oo, oo, oo, oo, oo, oo, oo, oo, oo, oo, oo, oo, oo, oo, oo, oo]
def L132_1 (x_0 : OA) (x_4 : Int) (l2_0 l2_1 : AV) (l2_2 l2_3 : AV) : LL := [none, none, (some (.cells [l2_0, l2_1, l2_2, l2_3])), oo, oo, oo, oo, oo, oo, oo, oo, oo, oo, oo, oo, oo, oo, oo, oo, oo, oo, oo, oo, oo, oo, oo, oo, oo, oo, oo, oo, oo, oo, oo, oo, oo, oo]
def T132_2 (l2_0 l2_1 : AV) (l2_2 l2_3 : AV) (l5_0 l5_1 : AV) (l5_2 l5_3 : AV) : LF := [none, none, (some (.lptr 2 0)), none, none, (some (.lptr 5 0)), oo, oo, oo, oo, oo, oo, oo, oo, oo, oo, oo, oo, oo, oo, oo, oo, oo, oo, oo, oo, oo, oo, oo, oo, oo, oo, oo, oo, oo, oo, oo]
def L132_2 (l2_0 l2_1 : AV) (l2_2 l2_3 : AV) (l5_0 l5_1 : AV) (l5_2 l5_3 : AV) : LL := [none, none, (some (.cells [l2_0, l2_1, l2_2, l2_3])), none, none, (some (.cells [l5_0, l5_1, l5_2, l5_3])), oo, oo, oo, oo, oo, oo, oo, oo, oo, oo, oo, oo, oo, oo, oo, oo, oo, oo, oo, oo, oo, oo, oo, oo, oo, oo, oo, oo, oo, oo, oo]
theorem R132_2 (N : Nat) (call : CT) (l2_0 l2_1 : AV) (l2_2 l2_3 : AV) (l5_0 l5_1 : AV) (l5_2 l5_3 : AV) (h : H) : E132_2 N call (T132_2 l2_0 l2_1 l2_2 l2_3 l5_0 l5_1 l5_2 l5_3) (L132_2 l2_0 l2_1 l2_2 l2_3 l5_0 l5_1 l5_2 l5_3) h = S132_2 call l2_0 l2_1 l2_2 l2_3 l5_0 l5_1 l5_2 l5_3 h := by kernel_rfl
theorem Z132_2 (N : Nat) (call : CT) (l2_0 l2_1 : AV) (l2_2 l2_3 : AV) (l5_0 l5_1 : AV) (l5_2 l5_3 : AV) (h : H) : E132_2 N call (T132_2 l2_0 l2_1 l2_2 l2_3 l5_0 l5_1 l5_2 l5_3) (L132_2 l2_0 l2_1 l2_2 l2_3 l5_0 l5_1 l5_2 l5_3) h = C132_2 N call l2_0 l2_1 l2_2 l2_3 l5_0 l5_1 l5_2 l5_3 h := by
  have r := R132_2 N call l2_0 l2_1 l2_2 l2_3 l5_0 l5_1 l5_2 l5_3 h
  have z : S132_2 call l2_0 l2_1 l2_2 l2_3 l5_0 l5_1 l5_2 l5_3 h = C132_2 N call l2_0 l2_1 l2_2 l2_3 l5_0 l5_1 l5_2 l5_3 h := by kernel_rfl
  exact r.trans z
theorem R132_1 (N : Nat) (call : CT) (self : K3) (x_0 : OA) (x_4 : Int) (l2_0 l2_1 : AV) (l2_2 l2_3 : AV) (h : H) : F132_1 N call self (T132_1 x_0 x_4 l2_0 l2_1 l2_2 l2_3) (L132_1 x_0 x_4 l2_0 l2_1 l2_2 l2_3) h = S132_1 call (fun (x_0 : OA) (x_4 : Int) (l2_0 l2_1 : AV) (l2_2 l2_3 : AV) h => self (T132_1 x_0 x_4 l2_0 l2_1 l2_2 l2_3) (L132_1 x_0 x_4 l2_0 l2_1 l2_2 l2_3) h) (fun (l2_0 l2_1 : AV) (l2_2 l2_3 : AV) (l5_0 l5_1 : AV) (l5_2 l5_3 : AV) h => (E132_2 N call) (T132_2 l2_0 l2_1 l2_2 l2_3 l5_0 l5_1 l5_2 l5_3) (L132_2 l2_0 l2_1 l2_2 l2_3 l5_0 l5_1 l5_2 l5_3) h) x_0 x_4 l2_0 l2_1 l2_2 l2_3 h := by kernel_rfl
theorem Q132_1 (N : Nat) (call : CT) (n : Nat) : ∀ (x_0 : OA) (x_4 : Int) (l2_0 l2_1 : AV) (l2_2 l2_3 : AV) (h : H), (iter (F132_1 N call) n) (T132_1 x_0 x_4 l2_0 l2_1 l2_2 l2_3) (L132_1 x_0 x_4 l2_0 l2_1 l2_2 l2_3) h = I132_1 N call n x_0 x_4 l2_0 l2_1 l2_2 l2_3 h := by
  induction n with
  | zero => intros; exact (iter_zero _ _ _ _).trans (by kernel_rfl)
  | succ n ih =>
    intro x_0 x_4 l2_0 l2_1 l2_2 l2_3 h
    have e0 : (fun (x_0 : OA) (x_4 : Int) (l2_0 l2_1 : AV) (l2_2 l2_3 : AV) h => (iter (F132_1 N call) n) (T132_1 x_0 x_4 l2_0 l2_1 l2_2 l2_3) (L132_1 x_0 x_4 l2_0 l2_1 l2_2 l2_3) h) = (I132_1 N call n) := by funext x_0 x_4 l2_0 l2_1 l2_2 l2_3 h; exact ih x_0 x_4 l2_0 l2_1 l2_2 l2_3 h
    have e2 : (fun (l2_0 l2_1 : AV) (l2_2 l2_3 : AV) (l5_0 l5_1 : AV) (l5_2 l5_3 : AV) h => (E132_2 N call) (T132_2 l2_0 l2_1 l2_2 l2_3 l5_0 l5_1 l5_2 l5_3) (L132_2 l2_0 l2_1 l2_2 l2_3 l5_0 l5_1 l5_2 l5_3) h) = (C132_2 N call) := by
      funext l2_0 l2_1 l2_2 l2_3 l5_0 l5_1 l5_2 l5_3 h
      have q := Z132_2 N call l2_0 l2_1 l2_2 l2_3 l5_0 l5_1 l5_2 l5_3 h
      exact q
    have r := R132_1 N call (iter (F132_1 N call) n) x_0 x_4 l2_0 l2_1 l2_2 l2_3 h
    rw [e0, e2] at r
    have g := iter_succ (F132_1 N call) n (T132_1 x_0 x_4 l2_0 l2_1 l2_2 l2_3) (L132_1 x_0 x_4 l2_0 l2_1 l2_2 l2_3) h
    have z : S132_1 call (I132_1 N call n) (C132_2 N call) x_0 x_4 l2_0 l2_1 l2_2 l2_3 h = I132_1 N call (n + 1) x_0 x_4 l2_0 l2_1 l2_2 l2_3 h := by kernel_rfl
    exact g.trans (r.trans z)
theorem Z132_1 (N : Nat) (call : CT) (x_0 : OA) (x_4 : Int) (l2_0 l2_1 : AV) (l2_2 l2_3 : AV) (h : H) : (E132_1 N call) (T132_1 x_0 x_4 l2_0 l2_1 l2_2 l2_3) (L132_1 x_0 x_4 l2_0 l2_1 l2_2 l2_3) h = C132_1 N call x_0 x_4 l2_0 l2_1 l2_2 l2_3 h := by
  have g : (E132_1 N call) (T132_1 x_0 x_4 l2_0 l2_1 l2_2 l2_3) (L132_1 x_0 x_4 l2_0 l2_1 l2_2 l2_3) h = iter (F132_1 N call) N (T132_1 x_0 x_4 l2_0 l2_1 l2_2 l2_3) (L132_1 x_0 x_4 l2_0 l2_1 l2_2 l2_3) h := by kernel_rfl
  have z : I132_1 N call N x_0 x_4 l2_0 l2_1 l2_2 l2_3 h = C132_1 N call x_0 x_4 l2_0 l2_1 l2_2 l2_3 h := by kernel_rfl
  exact g.trans ((Q132_1 N call N x_0 x_4 l2_0 l2_1 l2_2 l2_3 h).trans z)
theorem R132_0 (N : Nat) (call : CT) (y0 : AV) (h : H) : body Tryz.prog N call Tryz.f132 A132.an [y0] h = S132_0 call (fun (x_0 : OA) (x_4 : Int) (l2_0 l2_1 : AV) (l2_2 l2_3 : AV) h => (E132_1 N call) (T132_1 x_0 x_4 l2_0 l2_1 l2_2 l2_3) (L132_1 x_0 x_4 l2_0 l2_1 l2_2 l2_3) h) y0 h := by kernel_rfl
theorem Z132 (N : Nat) (call : CT) (y0 : AV) (h : H) : body Tryz.prog N call Tryz.f132 A132.an [y0] h = S132 N call y0 h := by
  have e1 : (fun (x_0 : OA) (x_4 : Int) (l2_0 l2_1 : AV) (l2_2 l2_3 : AV) h => (E132_1 N call) (T132_1 x_0 x_4 l2_0 l2_1 l2_2 l2_3) (L132_1 x_0 x_4 l2_0 l2_1 l2_2 l2_3) h) = (C132_1 N call) := by
    funext x_0 x_4 l2_0 l2_1 l2_2 l2_3 h
    exact Z132_1 N call x_0 x_4 l2_0 l2_1 l2_2 l2_3 h
  have r := R132_0 N call y0 h
  rw [e1] at r
  have z : S132_0 call (C132_1 N call) y0 h = S132 N call y0 h := by kernel_rfl
  exact r.trans z
theorem V132 (N : Nat) (call : CT) (vs : List AV) (h : H) : body Tryz.prog N call Tryz.f132 A132.an vs h = row1 (fun y0 => S132 N call y0 h) vs := wrap1 (by kernel_rfl) (fun y0 => Z132 N call y0 h) vs
/- slices.IndexFunc[[]sibyl/api.Node,sibyl/api.Node] -/
def A135.a0 : Ann := .items [.op 0]
def A135.a1 : Ann := .items [.op 0, .op 1, .op 2]
def A135.a2 : Ann := .items [.op 0]
def A135.a3 : Ann := .leaf
def A135.a4 : Ann := .leaf
def A135.a5 : Ann := .two A135.a3 A135.a4
def A135.a6 : Ann := .items [.op 0, .op 1]
def A135.a7 : Ann := .items [.op 0, .op 1, .op 2, .op 3, .op 4, .op 5]
def A135.a8 : Ann := .items [.op 0, .op 1]
def A135.a9 : Ann := .leaf
def A135.a10 : Ann := .two A135.a8 A135.a9
def A135.a11 : Ann := .leaf
def A135.a12 : Ann := .two A135.a10 A135.a11
def A135.a13 : Ann := .two A135.a7 A135.a12
def A135.a14 : Ann := .two A135.a6 A135.a13
def A135.a15 : Ann := .one A135.a14
def A135.a16 : Ann := .items [.op 0, .op 1]
def A135.a17 : Ann := .two A135.a15 A135.a16
def A135.a18 : Ann := .two A135.a5 A135.a17
def A135.a19 : Ann := .two A135.a2 A135.a18
def A135.a20 : Ann := .meet [0, 1, 7, 8] [] A135.a19
def A135.a21 : Ann := .one A135.a20
def A135.a22 : Ann := .two A135.a1 A135.a21
def A135.a23 : Ann := .items [.op 0]
def A135.a24 : Ann := .leaf
def A135.a25 : Ann := .two A135.a23 A135.a24
def A135.a26 : Ann := .two A135.a22 A135.a25
def A135.an : Ann := .two A135.a0 A135.a26
def F135_1 (N : Nat) (call : CT) (self : K3) : K3 :=
  (codeK Tryz.prog N call (c1 (c1 (c2 (c1 (c2 (bodyOf Tryz.f135)))))) A135.a19 (fun T L h => self (keepT [0, 1, 7, 8] T) (keepL [] L) h) (fun i T L h => match Nat.beq i 0 with | true => (codeK Tryz.prog N call (c2 (c2 (bodyOf Tryz.f135))) A135.a25 (resK Tryz.prog Tryz.f135.results.toList) (fun _ _ _ _ => none) (resK Tryz.prog Tryz.f135.results.toList)) T L h | false => (fun _ _ _ _ => none) i T L h) (resK Tryz.prog Tryz.f135.results.toList))
def E135_1 (N : Nat) (call : CT) : K3 := iter (F135_1 N call) N
def S135_1 (call : CT) (k1 : OA → Nat → Option Nat → AV → Int → Int → H → R) (a_0 : OA) (n_0 : Nat) (c_0 : Option Nat) (x_1 : AV) (x_7 x_8 : Int) (h : H) : R :=
  ifB (ltI x_8 x_7) (idxAddr 5 a_0 n_0 x_8 (fun b1 o2 => ldK h b1 o2 5 (fun l3 => row5 (fun x4 x5 x6 x7 x8 => onFn x_1 (fun g11 q12 q13 => bindR (call g11 (q12 ++ [(.agg [x4, x5, x6, x7, x8])] ++ q13) h) (fun v9 h10 => onBool v9 (fun e14 => ifB e14 (some ((.int .i64 x_8), h10)) (k1 a_0 n_0 c_0 x_1 x_7 (wrapF .i64 (Int.add x_8 (Int.ofNat 1))) h10))))) l3))) (some ((.int .i64 (Int.negSucc 0)), h))
def S135_0 (call : CT) (k1 : OA → Nat → Option Nat → AV → Int → Int → H → R) (y0 y1 : AV) (h : H) : R :=
  onSlice y0 (fun a1 n2 c3 => k1 a1 n2 c3 y1 (Int.ofNat n2) (Int.ofNat 0) h)
def B135_1 (N : Nat) (call : CT) (ih : OA → Nat → Option Nat → AV → Int → Int → H → R) : OA → Nat → Option Nat → AV → Int → Int → H → R := S135_1 call ih
def I135_1 (N : Nat) (call : CT) (n : Nat) : OA → Nat → Option Nat → AV → Int → Int → H → R := Nat.rec (motive := fun _ => OA → Nat → Option Nat → AV → Int → Int → H → R) (fun _ _ _ _ _ _ _ => none) (fun _ ih => B135_1 N call ih) n
def C135_1 (N : Nat) (call : CT) : OA → Nat → Option Nat → AV → Int → Int → H → R := I135_1 N call N
def S135 (N : Nat) (call : CT) (y0 y1 : AV) (h : H) : R := S135_0 call (C135_1 N call) y0 y1 h
def T135_1 (a_0 : OA) (n_0 : Nat) (c_0 : Option Nat) (x_1 : AV) (x_7 x_8 : Int) : LF := [(some (.v (.slice a_0 n_0 c_0))), (some (.v x_1)), oo, oo, oo, oo, oo, (some (.v (.int .i64 x_7))), (some (.v (.int .i64 x_8))), oo, oo, oo, oo, oo, oo, oo, oo, oo, oo]
def L135_1 (a_0 : OA) (n_0 : Nat) (c_0 : Option Nat) (x_1 : AV) (x_7 x_8 : Int) : LL := [oo, oo, oo, oo, oo, oo, oo, oo, oo, oo, oo, oo, oo, oo, oo, oo, oo, oo, oo]
theorem R135_1 (N : Nat) (call : CT) (self : K3) (a_0 : OA) (n_0 : Nat) (c_0 : Option Nat) (x_1 : AV) (x_7 x_8 : Int) (h : H) : F135_1 N call self (T135_1 a_0 n_0 c_0 x_1 x_7 x_8) (L135_1 a_0 n_0 c_0 x_1 x_7 x_8) h = S135_1 call (fun (a_0 : OA) (n_0 : Nat) (c_0 : Option Nat) (x_1 : AV) (x_7 x_8 : Int) h => self (T135_1 a_0 n_0 c_0 x_1 x_7 x_8) (L135_1 a_0 n_0 c_0 x_1 x_7 x_8) h) a_0 n_0 c_0 x_1 x_7 x_8 h := by kernel_rfl
theorem Q135_1 (N : Nat) (call : CT) (n : Nat) : ∀ (a_0 : OA) (n_0 : Nat) (c_0 : Option Nat) (x_1 : AV) (x_7 x_8 : Int) (h : H), (iter (F135_1 N call) n) (T135_1 a_0 n_0 c_0 x_1 x_7 x_8) (L135_1 a_0 n_0 c_0 x_1 x_7 x_8) h = I135_1 N call n a_0 n_0 c_0 x_1 x_7 x_8 h := by
  induction n with
  | zero => intros; exact (iter_zero _ _ _ _).trans (by kernel_rfl)
  | succ n ih =>
    intro a_0 n_0 c_0 x_1 x_7 x_8 h
    have e0 : (fun (a_0 : OA) (n_0 : Nat) (c_0 : Option Nat) (x_1 : AV) (x_7 x_8 : Int) h => (iter (F135_1 N call) n) (T135_1 a_0 n_0 c_0 x_1 x_7 x_8) (L135_1 a_0 n_0 c_0 x_1 x_7 x_8) h) = (I135_1 N call n) := by funext a_0 n_0 c_0 x_1 x_7 x_8 h; exact ih a_0 n_0 c_0 x_1 x_7 x_8 h
    have r := R135_1 N call (iter (F135_1 N call) n) a_0 n_0 c_0 x_1 x_7 x_8 h
    rw [e0] at r
    have g := iter_succ (F135_1 N call) n (T135_1 a_0 n_0 c_0 x_1 x_7 x_8) (L135_1 a_0 n_0 c_0 x_1 x_7 x_8) h
    have z : S135_1 call (I135_1 N call n) a_0 n_0 c_0 x_1 x_7 x_8 h = I135_1 N call (n + 1) a_0 n_0 c_0 x_1 x_7 x_8 h := by kernel_rfl
    exact g.trans (r.trans z)
theorem Z135_1 (N : Nat) (call : CT) (a_0 : OA) (n_0 : Nat) (c_0 : Option Nat) (x_1 : AV) (x_7 x_8 : Int) (h : H) : (E135_1 N call) (T135_1 a_0 n_0 c_0 x_1 x_7 x_8) (L135_1 a_0 n_0 c_0 x_1 x_7 x_8) h = C135_1 N call a_0 n_0 c_0 x_1 x_7 x_8 h := by
  have g : (E135_1 N call) (T135_1 a_0 n_0 c_0 x_1 x_7 x_8) (L135_1 a_0 n_0 c_0 x_1 x_7 x_8) h = iter (F135_1 N call) N (T135_1 a_0 n_0 c_0 x_1 x_7 x_8) (L135_1 a_0 n_0 c_0 x_1 x_7 x_8) h := by kernel_rfl
  have z : I135_1 N call N a_0 n_0 c_0 x_1 x_7 x_8 h = C135_1 N call a_0 n_0 c_0 x_1 x_7 x_8 h := by kernel_rfl
  exact g.trans ((Q135_1 N call N a_0 n_0 c_0 x_1 x_7 x_8 h).trans z)
theorem R135_0 (N : Nat) (call : CT) (y0 y1 : AV) (h : H) : body Tryz.prog N call Tryz.f135 A135.an [y0, y1] h = S135_0 call (fun (a_0 : OA) (n_0 : Nat) (c_0 : Option Nat) (x_1 : AV) (x_7 x_8 : Int) h => (E135_1 N call) (T135_1 a_0 n_0 c_0 x_1 x_7 x_8) (L135_1 a_0 n_0 c_0 x_1 x_7 x_8) h) y0 y1 h := by kernel_rfl
theorem Z135 (N : Nat) (call : CT) (y0 y1 : AV) (h : H) : body Tryz.prog N call Tryz.f135 A135.an [y0, y1] h = S135 N call y0 y1 h := by
  have e1 : (fun (a_0 : OA) (n_0 : Nat) (c_0 : Option Nat) (x_1 : AV) (x_7 x_8 : Int) h => (E135_1 N call) (T135_1 a_0 n_0 c_0 x_1 x_7 x_8) (L135_1 a_0 n_0 c_0 x_1 x_7 x_8) h) = (C135_1 N call) := by
    funext a_0 n_0 c_0 x_1 x_7 x_8 h
    exact Z135_1 N call a_0 n_0 c_0 x_1 x_7 x_8 h
  have r := R135_0 N call y0 y1 h
  rw [e1] at r
  have z : S135_0 call (C135_1 N call) y0 y1 h = S135 N call y0 y1 h := by kernel_rfl
  exact r.trans z
theorem V135 (N : Nat) (call : CT) (vs : List AV) (h : H) : body Tryz.prog N call Tryz.f135 A135.an vs h = row2 (fun y0 y1 => S135 N call y0 y1 h) vs := wrap2 (by kernel_rfl) (fun y0 y1 => Z135 N call y0 y1 h) vs
/- slices.Index[[]string,string] -/
def A136.a0 : Ann := .items [.op 0]
def A136.a1 : Ann := .items [.op 0, .op 1, .op 2]
def A136.a2 : Ann := .items [.op 0]
def A136.a3 : Ann := .leaf
def A136.a4 : Ann := .leaf
def A136.a5 : Ann := .two A136.a3 A136.a4
def A136.a6 : Ann := .items [.op 0, .op 1]
def A136.a7 : Ann := .items [.op 0, .op 1, .op 2, .op 3, .op 4, .op 5]
def A136.a8 : Ann := .items [.op 0, .op 1]
def A136.a9 : Ann := .leaf
def A136.a10 : Ann := .two A136.a8 A136.a9
def A136.a11 : Ann := .leaf
def A136.a12 : Ann := .two A136.a10 A136.a11
def A136.a13 : Ann := .two A136.a7 A136.a12
def A136.a14 : Ann := .two A136.a6 A136.a13
def A136.a15 : Ann := .one A136.a14
def A136.a16 : Ann := .items [.op 0, .op 1]
def A136.a17 : Ann := .two A136.a15 A136.a16
def A136.a18 : Ann := .two A136.a5 A136.a17
def A136.a19 : Ann := .two A136.a2 A136.a18
def A136.a20 : Ann := .meet [0, 1, 7, 8] [] A136.a19
def A136.a21 : Ann := .one A136.a20
def A136.a22 : Ann := .two A136.a1 A136.a21
def A136.a23 : Ann := .items [.op 0]
def A136.a24 : Ann := .leaf
def A136.a25 : Ann := .two A136.a23 A136.a24
def A136.a26 : Ann := .two A136.a22 A136.a25
def A136.an : Ann := .two A136.a0 A136.a26
def F136_1 (N : Nat) (call : CT) (self : K3) : K3 :=
  (codeK Tryz.prog N call (c1 (c1 (c2 (c1 (c2 (bodyOf Tryz.f136)))))) A136.a19 (fun T L h => self (keepT [0, 1, 7, 8] T) (keepL [] L) h) (fun i T L h => match Nat.beq i 0 with | true => (codeK Tryz.prog N call (c2 (c2 (bodyOf Tryz.f136))) A136.a25 (resK Tryz.prog Tryz.f136.results.toList) (fun _ _ _ _ => none) (resK Tryz.prog Tryz.f136.results.toList)) T L h | false => (fun _ _ _ _ => none) i T L h) (resK Tryz.prog Tryz.f136.results.toList))
def E136_1 (N : Nat) (call : CT) : K3 := iter (F136_1 N call) N
def S136_1 (call : CT) (k1 : OA → Nat → Option Nat → List Nat → Int → Int → H → R) (a_0 : OA) (n_0 : Nat) (c_0 : Option Nat) (x_1 : List Nat) (x_7 x_8 : Int) (h : H) : R :=
  ifB (ltI x_8 x_7) (idxAddr 1 a_0 n_0 x_8 (fun b1 o2 => ldK h b1 o2 1 (one (fun v3 => onStr v3 (fun s4 => ifB (eqS x_1 s4) (some ((.int .i64 x_8), h)) (k1 a_0 n_0 c_0 x_1 x_7 (wrapF .i64 (Int.add x_8 (Int.ofNat 1))) h)))))) (some ((.int .i64 (Int.negSucc 0)), h))
def S136_0 (call : CT) (k1 : OA → Nat → Option Nat → List Nat → Int → Int → H → R) (y0 y1 : AV) (h : H) : R :=
  onSlice y0 (fun a1 n2 c3 => onStr y1 (fun s4 => k1 a1 n2 c3 s4 (Int.ofNat n2) (Int.ofNat 0) h))
def B136_1 (N : Nat) (call : CT) (ih : OA → Nat → Option Nat → List Nat → Int → Int → H → R) : OA → Nat → Option Nat → List Nat → Int → Int → H → R := S136_1 call ih
def I136_1 (N : Nat) (call : CT) (n : Nat) : OA → Nat → Option Nat → List Nat → Int → Int → H → R := Nat.rec (motive := fun _ => OA → Nat → Option Nat → List Nat → Int → Int → H → R) (fun _ _ _ _ _ _ _ => none) (fun _ ih => B136_1 N call ih) n
def C136_1 (N : Nat) (call : CT) : OA → Nat → Option Nat → List Nat → Int → Int → H → R := I136_1 N call N
def S136 (N : Nat) (call : CT) (y0 y1 : AV) (h : H) : R := S136_0 call (C136_1 N call) y0 y1 h
def T136_1 (a_0 : OA) (n_0 : Nat) (c_0 : Option Nat) (x_1 : List Nat) (x_7 x_8 : Int) : LF := [(some (.v (.slice a_0 n_0 c_0))), (some (.v (.str x_1))), oo, oo, oo, oo, oo, (some (.v (.int .i64 x_7))), (some (.v (.int .i64 x_8))), oo, oo, oo, oo, oo, oo, oo, oo, oo, oo]
def L136_1 (a_0 : OA) (n_0 : Nat) (c_0 : Option Nat) (x_1 : List Nat) (x_7 x_8 : Int) : LL := [oo, oo, oo, oo, oo, oo, oo, oo, oo, oo, oo, oo, oo, oo, oo, oo, oo, oo, oo]
theorem R136_1 (N : Nat) (call : CT) (self : K3) (a_0 : OA) (n_0 : Nat) (c_0 : Option Nat) (x_1 : List Nat) (x_7 x_8 : Int) (h : H) : F136_1 N call self (T136_1 a_0 n_0 c_0 x_1 x_7 x_8) (L136_1 a_0 n_0 c_0 x_1 x_7 x_8) h = S136_1 call (fun (a_0 : OA) (n_0 : Nat) (c_0 : Option Nat) (x_1 : List Nat) (x_7 x_8 : Int) h => self (T136_1 a_0 n_0 c_0 x_1 x_7 x_8) (L136_1 a_0 n_0 c_0 x_1 x_7 x_8) h) a_0 n_0 c_0 x_1 x_7 x_8 h := by kernel_rfl
theorem Q136_1 (N : Nat) (call : CT) (n : Nat) : ∀ (a_0 : OA) (n_0 : Nat) (c_0 : Option Nat) (x_1 : List Nat) (x_7 x_8 : Int) (h : H), (iter (F136_1 N call) n) (T136_1 a_0 n_0 c_0 x_1 x_7 x_8) (L136_1 a_0 n_0 c_0 x_1 x_7 x_8) h = I136_1 N call n a_0 n_0 c_0 x_1 x_7 x_8 h := by
  induction n with
  | zero => intros; exact (iter_zero _ _ _ _).trans (by kernel_rfl)
  | succ n ih =>
    intro a_0 n_0 c_0 x_1 x_7 x_8 h
    have e0 : (fun (a_0 : OA) (n_0 : Nat) (c_0 : Option Nat) (x_1 : List Nat) (x_7 x_8 : Int) h => (iter (F136_1 N call) n) (T136_1 a_0 n_0 c_0 x_1 x_7 x_8) (L136_1 a_0 n_0 c_0 x_1 x_7 x_8) h) = (I136_1 N call n) := by funext a_0 n_0 c_0 x_1 x_7 x_8 h; exact ih a_0 n_0 c_0 x_1 x_7 x_8 h
    have r := R136_1 N call (iter (F136_1 N call) n) a_0 n_0 c_0 x_1 x_7 x_8 h
    rw [e0] at r
    have g := iter_succ (F136_1 N call) n (T136_1 a_0 n_0 c_0 x_1 x_7 x_8) (L136_1 a_0 n_0 c_0 x_1 x_7 x_8) h
    have z : S136_1 call (I136_1 N call n) a_0 n_0 c_0 x_1 x_7 x_8 h = I136_1 N call (n + 1) a_0 n_0 c_0 x_1 x_7 x_8 h := by kernel_rfl
    exact g.trans (r.trans z)
theorem Z136_1 (N : Nat) (call : CT) (a_0 : OA) (n_0 : Nat) (c_0 : Option Nat) (x_1 : List Nat) (x_7 x_8 : Int) (h : H) : (E136_1 N call) (T136_1 a_0 n_0 c_0 x_1 x_7 x_8) (L136_1 a_0 n_0 c_0 x_1 x_7 x_8) h = C136_1 N call a_0 n_0 c_0 x_1 x_7 x_8 h := by
  have g : (E136_1 N call) (T136_1 a_0 n_0 c_0 x_1 x_7 x_8) (L136_1 a_0 n_0 c_0 x_1 x_7 x_8) h = iter (F136_1 N call) N (T136_1 a_0 n_0 c_0 x_1 x_7 x_8) (L136_1 a_0 n_0 c_0 x_1 x_7 x_8) h := by kernel_rfl
  have z : I136_1 N call N a_0 n_0 c_0 x_1 x_7 x_8 h = C136_1 N call a_0 n_0 c_0 x_1 x_7 x_8 h := by kernel_rfl
  exact g.trans ((Q136_1 N call N a_0 n_0 c_0 x_1 x_7 x_8 h).trans z)
theorem R136_0 (N : Nat) (call : CT) (y0 y1 : AV) (h : H) : body Tryz.prog N call Tryz.f136 A136.an [y0, y1] h = S136_0 call (fun (a_0 : OA) (n_0 : Nat) (c_0 : Option Nat) (x_1 : List Nat) (x_7 x_8 : Int) h => (E136_1 N call) (T136_1 a_0 n_0 c_0 x_1 x_7 x_8) (L136_1 a_0 n_0 c_0 x_1 x_7 x_8) h) y0 y1 h := by kernel_rfl
theorem Z136 (N : Nat) (call : CT) (y0 y1 : AV) (h : H) : body Tryz.prog N call Tryz.f136 A136.an [y0, y1] h = S136 N call y0 y1 h := by
  have e1 : (fun (a_0 : OA) (n_0 : Nat) (c_0 : Option Nat) (x_1 : List Nat) (x_7 x_8 : Int) h => (E136_1 N call) (T136_1 a_0 n_0 c_0 x_1 x_7 x_8) (L136_1 a_0 n_0 c_0 x_1 x_7 x_8) h) = (C136_1 N call) := by
    funext a_0 n_0 c_0 x_1 x_7 x_8 h
    exact Z136_1 N call a_0 n_0 c_0 x_1 x_7 x_8 h
  have r := R136_0 N call y0 y1 h
  rw [e1] at r
  have z : S136_0 call (C136_1 N call) y0 y1 h = S136 N call y0 y1 h := by kernel_rfl
  exact r.trans z
theorem V136 (N : Nat) (call : CT) (vs : List AV) (h : H) : body Tryz.prog N call Tryz.f136 A136.an vs h = row2 (fun y0 y1 => S136 N call y0 y1 h) vs := wrap2 (by kernel_rfl) (fun y0 y1 => Z136 N call y0 y1 h) vs
/- slices.Contains[[]string,string] -/
def A139.a0 : Ann := .items [.op 0]
def A139.a1 : Ann := .items [.op 0, .op 1, .op 2, .op 3, .op 4]
def A139.a2 : Ann := .leaf
def A139.a3 : Ann := .two A139.a1 A139.a2
def A139.an : Ann := .two A139.a0 A139.a3
def S139_0 (call : CT) (y0 y1 : AV) (h : H) : R :=
  onSlice y0 (fun a1 n2 c3 => onStr y1 (fun s4 => bindR (call 136 [(.slice a1 n2 c3), (.str s4)] h) (fun v5 h6 => onInt .i64 v5 (fun i7 => some ((.bool (leI (Int.ofNat 0) i7)), h6)))))
def S139 (N : Nat) (call : CT) (y0 y1 : AV) (h : H) : R := S139_0 call y0 y1 h
theorem R139_0 (N : Nat) (call : CT) (y0 y1 : AV) (h : H) : body Tryz.prog N call Tryz.f139 A139.an [y0, y1] h = S139_0 call y0 y1 h := by kernel_rfl
theorem Z139 (N : Nat) (call : CT) (y0 y1 : AV) (h : H) : body Tryz.prog N call Tryz.f139 A139.an [y0, y1] h = S139 N call y0 y1 h := by
  have r := R139_0 N call y0 y1 h
  have z : S139_0 call y0 y1 h = S139 N call y0 y1 h := by kernel_rfl
  exact r.trans z
theorem V139 (N : Nat) (call : CT) (vs : List AV) (h : H) : body Tryz.prog N call Tryz.f139 A139.an vs h = row2 (fun y0 y1 => S139 N call y0 y1 h) vs := wrap2 (by kernel_rfl) (fun y0 y1 => Z139 N call y0 y1 h) vs
/- (*sibyl/sibylref4.parser).atom -/
def A141.a0 : Ann := .items [.opL 0]
def A141.a1 : Ann := .items [.op 0, .op 1, .opL 2, .op 3]
def A141.a2 : Ann := .drawn [.op 0, .op 1, .op 2, .op 3, .split 12, .op 4, .op 5, .op 6, .op 7, .op 8, .op 9, .op 10, .op 11, .op 12, .op 13, .op 14, .op 15, .op 16, .op 17, .op 18, .split 27, .op 19, .op 20, .op 21, .op 22, .op 23, .op 24, .op 25, .op 26, .op 27, .op 28, .op 29, .op 30, .op 31, .op 32]
def A141.a3 : Ann := .items [.op 0, .op 1]
def A141.a4 : Ann := .items [.op 0, .op 1]
def A141.a5 : Ann := .drawn [.op 4, .op 5, .op 0, .op 1, .op 2, .op 3, .op 6, .op 7]
def A141.a6 : Ann := .leaf
def A141.a7 : Ann := .two A141.a5 A141.a6
def A141.a8 : Ann := .two A141.a4 A141.a7
def A141.a9 : Ann := .two A141.a3 A141.a8
def A141.a10 : Ann := .leaf
def A141.a11 : Ann := .two A141.a9 A141.a10
def A141.a12 : Ann := .join [0, 2, 3, 41] [2, 3] A141.a2 A141.a11
def A141.a13 : Ann := .items [.op 0, .op 1, .opL 2, .op 3]
def A141.a14 : Ann := .items [.op 0, .op 1, .op 2]
def A141.a15 : Ann := .items [.op 0, .op 1, .op 2, .op 3, .op 4, .op 5, .split 62, .op 6, .op 7, .op 8]
def A141.a16 : Ann := .items [.op 0, .op 1, .opL 2, .op 3]
def A141.a17 : Ann := .drawn [.op 4, .op 5, .op 3, .op 6, .op 0, .op 1, .op 2, .op 7, .op 8]
def A141.a18 : Ann := .leaf
def A141.a19 : Ann := .two A141.a17 A141.a18
def A141.a20 : Ann := .two A141.a16 A141.a19
def A141.a21 : Ann := .leaf
def A141.a22 : Ann := .two A141.a20 A141.a21
def A141.a23 : Ann := .join [0, 2, 3, 4, 5, 65] [2, 3, 4] A141.a15 A141.a22
def A141.a24 : Ann := .items [.op 0, .op 1, .op 2]
def A141.a25 : Ann := .items [.op 0, .op 1, .op 2, .op 3]
def A141.a26 : Ann := .leaf
def A141.a27 : Ann := .two A141.a25 A141.a26
def A141.a28 : Ann := .two A141.a24 A141.a27
def A141.a29 : Ann := .items [.op 0, .op 1, .op 2, .op 3, .op 4, .op 5]
def A141.a30 : Ann := .leaf
def A141.a31 : Ann := .two A141.a29 A141.a30
def A141.a32 : Ann := .join [2, 3, 4] [2, 3, 4] A141.a28 A141.a31
def A141.a33 : Ann := .join [0, 2, 3, 4] [2, 3, 4] A141.a23 A141.a32
def A141.a34 : Ann := .two A141.a14 A141.a33
def A141.a35 : Ann := .two A141.a13 A141.a34
def A141.a36 : Ann := .join [0, 2, 3] [2, 3] A141.a12 A141.a35
def A141.a37 : Ann := .two A141.a1 A141.a36
def A141.an : Ann := .two A141.a0 A141.a37
def E141_1 (N : Nat) (call : CT) : K3 :=
  (codeK Tryz.prog N call (c2 (c2 (c2 (bodyOf Tryz.f141)))) A141.a35 (resK Tryz.prog Tryz.f141.results.toList) (fun _ _ _ _ => none) (resK Tryz.prog Tryz.f141.results.toList))
def E141_2 (N : Nat) (call : CT) : K3 :=
  (codeK Tryz.prog N call (c2 (c1 (c2 (c2 (bodyOf Tryz.f141))))) A141.a11 (fun T L h => (E141_1 N call) (keepT [0, 2, 3] T) (keepL [2, 3] L) h) (fun _ _ _ _ => none) (resK Tryz.prog Tryz.f141.results.toList))
def E141_3 (N : Nat) (call : CT) : K3 :=
  (codeK Tryz.prog N call (c2 (c2 (c2 (c2 (c2 (c2 (bodyOf Tryz.f141))))))) A141.a32 (resK Tryz.prog Tryz.f141.results.toList) (fun _ _ _ _ => none) (resK Tryz.prog Tryz.f141.results.toList))
def E141_4 (N : Nat) (call : CT) : K3 :=
  (codeK Tryz.prog N call (c2 (c1 (c2 (c2 (c2 (c2 (c2 (bodyOf Tryz.f141)))))))) A141.a22 (fun T L h => (E141_3 N call) (keepT [0, 2, 3, 4] T) (keepL [2, 3, 4] L) h) (fun _ _ _ _ => none) (resK Tryz.prog Tryz.f141.results.toList))
def E141_5 (N : Nat) (call : CT) : K3 :=
  (codeK Tryz.prog N call (c2 (c2 (c2 (c2 (c2 (c2 (c2 (bodyOf Tryz.f141)))))))) A141.a31 (resK Tryz.prog Tryz.f141.results.toList) (fun _ _ _ _ => none) (resK Tryz.prog Tryz.f141.results.toList))
def S141_1 (call : CT) (k4 : OA → List Nat → Bool → AV → AV → AV → AV → AV → AV → AV → AV → AV → AV → AV → AV → AV → AV → H → R) (x_0 : OA) (l2_0 l2_1 : AV) (l2_2 l2_3 : AV) (l2_4 l3_0 : AV) (l3_1 l3_2 l3_3 : AV) (h : H) : R :=
  bindR (call 152 [(.ptr x_0)] h) (fun v1 h2 => onAgR v1 (fun l8 => row5 (fun x3 x4 x5 x6 x7 => bindR (call 153 [(.ptr x_0)] h2) (fun v9 h10 => onStr v9 (fun s11 => onSome x_0 (fun b12 o13 => ldK h10 b12 (o13 + 2) 1 (one (fun v14 => onInt .i64 v14 (fun i15 => ifB (eqI i15 (Int.ofNat 0)) (k4 x_0 s11 (!(eqS s11 [])) l2_0 l2_1 l2_2 l2_3 l2_4 l3_0 l3_1 l3_2 l3_3 x3 x4 x5 x6 x7 h10) (k4 x_0 s11 false l2_0 l2_1 l2_2 l2_3 l2_4 l3_0 l3_1 l3_2 l3_3 x3 x4 x5 x6 x7 h10)))))))) l8))
def S141_2 (call : CT) (k1 : OA → AV → AV → AV → AV → AV → AV → AV → AV → AV → H → R) (x_0 : OA) (x_41 : Bool) (l2_0 l2_1 : AV) (l2_2 l2_3 : AV) (l2_4 l3_0 : AV) (l3_1 l3_2 l3_3 : AV) (h : H) : R :=
  ifB x_41 (bindR (call 55 [(.ptr x_0)] h) (fun v1 h2 => onAgR v1 (fun l7 => row4 (fun x3 x4 x5 x6 => bindR (call 55 [(.ptr x_0)] h2) (fun v8 h9 => onAgR v8 (fun l14 => row4 (fun x10 x11 x12 x13 => bindR (call 151 [(.ptr x_0), (.str [41]), (.bool false)] h9) (fun v15 h16 => onSlice v15 (fun a17 n18 c19 => guardB (sameAV l3_1 l3_1) (onStr l3_1 (fun s20 => guardB (sameAV l3_3 l3_3) (onInt .i64 l3_3 (fun i21 => some ((.agg [(.str [99, 97, 108, 108]), (.str s20), (.int .i64 (Int.ofNat 0)), (.int .i64 i21), (.slice a17 n18 c19)]), h16)))))))) l14))) l7))) (k1 x_0 l2_0 l2_1 l2_2 l2_3 l2_4 l3_0 l3_1 l3_2 l3_3 h)
def S141_3 (call : CT) (k5 : AV → AV → AV → AV → AV → AV → AV → AV → AV → AV → AV → AV → AV → AV → H → R) (x_0 : OA) (l2_0 l2_1 : AV) (l2_2 l2_3 : AV) (l2_4 l3_0 : AV) (l3_1 l3_2 : AV) (l3_3 l4_0 : AV) (l4_1 l4_2 : AV) (l4_3 l4_4 : AV) (h : H) : R :=
  onStr l4_0 (fun s1 => ifB (!(eqS s1 [118, 97, 114])) (onInt .i64 l3_3 (fun i2 => bindR (call 35 [(.ptr x_0), (.int .i64 i2), (.int .i64 (Int.ofNat 2))] h) (fun v3 h4 => k5 l2_0 l2_1 l2_2 l2_3 l2_4 l3_0 l3_1 l3_2 l3_3 l4_0 l4_1 l4_2 l4_3 l4_4 h4))) (k5 l2_0 l2_1 l2_2 l2_3 l2_4 l3_0 l3_1 l3_2 l3_3 l4_0 l4_1 l4_2 l4_3 l4_4 h))
def S141_4 (call : CT) (k3 : OA → AV → AV → AV → AV → AV → AV → AV → AV → AV → AV → AV → AV → AV → AV → H → R) (x_0 : OA) (x_5 : List Nat) (x_65 : Bool) (l2_0 l2_1 : AV) (l2_2 l2_3 : AV) (l2_4 l3_0 : AV) (l3_1 l3_2 : AV) (l3_3 l4_0 : AV) (l4_1 l4_2 : AV) (l4_3 l4_4 : AV) (h : H) : R :=
  ifB x_65 (bindR (call 55 [(.ptr x_0)] h) (fun v1 h2 => onAgR v1 (fun l7 => row4 (fun x3 x4 x5 x6 => bindR (call 152 [(.ptr x_0)] h2) (fun v8 h9 => onAgR v8 (fun l15 => row5 (fun x10 x11 x12 x13 x14 => guardB (sameAV (.agg [l4_0, l4_1, l4_2, l4_3, l4_4]) (.agg [l4_0, l4_1, l4_2, l4_3, l4_4])) (newK h9 [l4_0, l4_1, l4_2, l4_3, l4_4, x10, x11, x12, x13, x14] (fun b16 h17 => guardB (sameAV x6 x6) (guardB (sameAV x6 x6) (onInt .i64 x6 (fun i18 => some ((.agg [(.str x_5), (.str []), (.int .i64 (Int.ofNat 0)), (.int .i64 i18), (.slice (some (b16, 0)) 2 (some 2))]), h17))))))) l15))) l7))) (k3 x_0 l2_0 l2_1 l2_2 l2_3 l2_4 l3_0 l3_1 l3_2 l3_3 l4_0 l4_1 l4_2 l4_3 l4_4 h)
def S141_5 (call : CT) (l2_0 l2_1 : AV) (l2_2 l2_3 : AV) (l2_4 l3_0 : AV) (l3_1 l3_2 : AV) (l3_3 l4_0 : AV) (l4_1 l4_2 : AV) (l4_3 l4_4 : AV) (h : H) : R :=
  onStr l4_1 (fun s1 => onInt .i64 l3_3 (fun i2 => some ((.agg [(.str [105, 115]), (.str s1), (.int .i64 (Int.ofNat 0)), (.int .i64 i2), (.slice none 0 (some 0))]), h)))
def S141_0 (call : CT) (k2 : OA → Bool → AV → AV → AV → AV → AV → AV → AV → AV → AV → H → R) (y0 : AV) (h : H) : R :=
  onPtr y0 (fun p1 => bindR (call 34 [(.ptr p1)] h) (fun v2 h3 => onAgR v2 (fun l8 => row4 (fun x4 x5 x6 x7 => onInt .i64 x4 (fun i9 => ifB (eqI i9 (Int.ofNat 1)) (onSome p1 (fun b10 o11 => ldK h3 b10 (o11 + 0) 1 (one (fun v12 => onSlice v12 (fun a13 n14 c15 => onSome p1 (fun b16 o17 => ldK h3 b16 (o17 + 1) 1 (one (fun v18 => onInt .i64 v18 (fun i19 => idxAddr 4 a13 n14 (wrapF .i64 (Int.add i19 (Int.ofNat 1))) (fun b20 o21 => ldK h3 b20 (o21 + 0) 1 (one (fun v22 => onInt .i64 v22 (fun i23 => ifB (eqI i23 (Int.ofNat 3)) (onSome p1 (fun b24 o25 => ldK h3 b24 (o25 + 0) 1 (one (fun v26 => onSlice v26 (fun a27 n28 c29 => onSome p1 (fun b30 o31 => ldK h3 b30 (o31 + 1) 1 (one (fun v32 => onInt .i64 v32 (fun i33 => idxAddr 4 a27 n28 (wrapF .i64 (Int.add i33 (Int.ofNat 1))) (fun b34 o35 => ldK h3 b34 (o35 + 1) 1 (one (fun v36 => onStr v36 (fun s37 => k2 p1 (eqS s37 [40]) (.str []) (.str []) (.int .i64 (Int.ofNat 0)) (.int .i64 (Int.ofNat 0)) (.slice none 0 (some 0)) x4 x5 x6 x7 h3))))))))))))) (k2 p1 false (.str []) (.str []) (.int .i64 (Int.ofNat 0)) (.int .i64 (Int.ofNat 0)) (.slice none 0 (some 0)) x4 x5 x6 x7 h3)))))))))))))) (k2 p1 false (.str []) (.str []) (.int .i64 (Int.ofNat 0)) (.int .i64 (Int.ofNat 0)) (.slice none 0 (some 0)) x4 x5 x6 x7 h3))) l8)))
def C141_5 (N : Nat) (call : CT) : AV → AV → AV → AV → AV → AV → AV → AV → AV → AV → AV → AV → AV → AV → H → R := S141_5 call
def C141_3 (N : Nat) (call : CT) : OA → AV → AV → AV → AV → AV → AV → AV → AV → AV → AV → AV → AV → AV → AV → H → R := S141_3 call (C141_5 N call)
def C141_4 (N : Nat) (call : CT) : OA → List Nat → Bool → AV → AV → AV → AV → AV → AV → AV → AV → AV → AV → AV → AV → AV → AV → H → R := S141_4 call (C141_3 N call)
def C141_1 (N : Nat) (call : CT) : OA → AV → AV → AV → AV → AV → AV → AV → AV → AV → H → R := S141_1 call (C141_4 N call)
def C141_2 (N : Nat) (call : CT) : OA → Bool → AV → AV → AV → AV → AV → AV → AV → AV → AV → H → R := S141_2 call (C141_1 N call)
def S141 (N : Nat) (call : CT) (y0 : AV) (h : H) : R := S141_0 call (C141_2 N call) y0 h
def T141_1 (x_0 : OA) (l2_0 l2_1 : AV) (l2_2 l2_3 : AV) (l2_4 l3_0 : AV) (l3_1 l3_2 l3_3 : AV) : LF := [(some (.v (.ptr x_0))), none, (some (.lptr 2 0)), (some (.lptr 3 0)), oo, oo, oo, oo, oo, oo, oo, oo, oo, oo, oo, oo, oo, oo, oo, oo, oo, oo, oo, oo, oo, oo, oo, oo, oo, oo, oo, oo, oo, oo, oo, oo, oo, oo, oo, oo, oo, oo, oo, oo, oo, oo, oo, oo, oo, oo, oo, oo, oo, oo, oo, oo, oo, oo, oo, oo, oo, oo, oo, oo, oo, oo, oo, oo, oo, oo, oo, oo, oo, oo, oo, oo, oo, oo, oo, oo, oo, oo, oo, oo, oo, oo, oo, oo]
def L141_1 (x_0 : OA) (l2_0 l2_1 : AV) (l2_2 l2_3 : AV) (l2_4 l3_0 : AV) (l3_1 l3_2 l3_3 : AV) : LL := [none, none, (some (.cells [l2_0, l2_1, l2_2, l2_3, l2_4])), (some (.cells [l3_0, l3_1, l3_2, l3_3])), oo, oo, oo, oo, oo, oo, oo, oo, oo, oo, oo, oo, oo, oo, oo, oo, oo, oo, oo, oo, oo, oo, oo, oo, oo, oo, oo, oo, oo, oo, oo, oo, oo, oo, oo, oo, oo, oo, oo, oo, oo, oo, oo, oo, oo, oo, oo, oo, oo, oo, oo, oo, oo, oo, oo, oo, oo, oo, oo, oo, oo, oo, oo, oo, oo, oo, oo, oo, oo, oo, oo, oo, oo, oo, oo, oo, oo, oo, oo, oo, oo, oo, oo, oo]
def T141_2 (x_0 : OA) (x_41 : Bool) (l2_0 l2_1 : AV) (l2_2 l2_3 : AV) (l2_4 l3_0 : AV) (l3_1 l3_2 l3_3 : AV) : LF := [(some (.v (.ptr x_0))), none, (some (.lptr 2 0)), (some (.lptr 3 0)), oo, oo, oo, oo, oo, oo, oo, oo, oo, oo, oo, oo, oo, oo, oo, oo, oo, oo, oo, oo, oo, oo, oo, oo, oo, oo, oo, oo, oo, oo, oo, oo, oo, oo, oo, oo, oo, (some (.v (.bool x_41))), oo, oo, oo, oo, oo, oo, oo, oo, oo, oo, oo, oo, oo, oo, oo, oo, oo, oo, oo, oo, oo, oo, oo, oo, oo, oo, oo, oo, oo, oo, oo, oo, oo, oo, oo, oo, oo, oo, oo, oo, oo, oo, oo, oo, oo, oo]
def L141_2 (x_0 : OA) (x_41 : Bool) (l2_0 l2_1 : AV) (l2_2 l2_3 : AV) (l2_4 l3_0 : AV) (l3_1 l3_2 l3_3 : AV) : LL := [none, none, (some (.cells [l2_0, l2_1, l2_2, l2_3, l2_4])), (some (.cells [l3_0, l3_1, l3_2, l3_3])), oo, oo, oo, oo, oo, oo, oo, oo, oo, oo, oo, oo, oo, oo, oo, oo, oo, oo, oo, oo, oo, oo, oo, oo, oo, oo, oo, oo, oo, oo, oo, oo, oo, oo, oo, oo, oo, oo, oo, oo, oo, oo, oo, oo, oo, oo, oo, oo, oo, oo, oo, oo, oo, oo, oo, oo, oo, oo, oo, oo, oo, oo, oo, oo, oo, oo, oo, oo, oo, oo, oo, oo, oo, oo, oo, oo, oo, oo, oo, oo, oo, oo, oo, oo]
def T141_3 (x_0 : OA) (l2_0 l2_1 : AV) (l2_2 l2_3 : AV) (l2_4 l3_0 : AV) (l3_1 l3_2 : AV) (l3_3 l4_0 : AV) (l4_1 l4_2 : AV) (l4_3 l4_4 : AV) : LF := [(some (.v (.ptr x_0))), none, (some (.lptr 2 0)), (some (.lptr 3 0)), (some (.lptr 4 0)), oo, oo, oo, oo, oo, oo, oo, oo, oo, oo, oo, oo, oo, oo, oo, oo, oo, oo, oo, oo, oo, oo, oo, oo, oo, oo, oo, oo, oo, oo, oo, oo, oo, oo, oo, oo, oo, oo, oo, oo, oo, oo, oo, oo, oo, oo, oo, oo, oo, oo, oo, oo, oo, oo, oo, oo, oo, oo, oo, oo, oo, oo, oo, oo, oo, oo, oo, oo, oo, oo, oo, oo, oo, oo, oo, oo, oo, oo, oo, oo, oo, oo, oo]
def L141_3 (x_0 : OA) (l2_0 l2_1 : AV) (l2_2 l2_3 : AV) (l2_4 l3_0 : AV) (l3_1 l3_2 : AV) (l3_3 l4_0 : AV) (l4_1 l4_2 : AV) (l4_3 l4_4 : AV) : LL := [none, none, (some (.cells [l2_0, l2_1, l2_2, l2_3, l2_4])), (some (.cells [l3_0, l3_1, l3_2, l3_3])), (some (.cells [l4_0, l4_1, l4_2, l4_3, l4_4])), oo, oo, oo, oo, oo, oo, oo, oo, oo, oo, oo, oo, oo, oo, oo, oo, oo, oo, oo, oo, oo, oo, oo, oo, oo, oo, oo, oo, oo, oo, oo, oo, oo, oo, oo, oo, oo, oo, oo, oo, oo, oo, oo, oo, oo, oo, oo, oo, oo, oo, oo, oo, oo, oo, oo, oo, oo, oo, oo, oo, oo, oo, oo, oo, oo, oo, oo, oo, oo, oo, oo, oo, oo, oo, oo, oo, oo, oo, oo, oo, oo, oo, oo]
def T141_4 (x_0 : OA) (x_5 : List Nat) (x_65 : Bool) (l2_0 l2_1 : AV) (l2_2 l2_3 : AV) (l2_4 l3_0 : AV) (l3_1 l3_2 : AV) (l3_3 l4_0 : AV) (l4_1 l4_2 : AV) (l4_3 l4_4 : AV) : LF := [(some (.v (.ptr x_0))), none, (some (.lptr 2 0)), (some (.lptr 3 0)), (some (.lptr 4 0)), (some (.v (.str x_5))), oo, oo, oo, oo, oo, oo, oo, oo, oo, oo, oo, oo, oo, oo, oo, oo, oo, oo, oo, oo, oo, oo, oo, oo, oo, oo, oo, oo, oo, oo, oo, oo, oo, oo, oo, oo, oo, oo, oo, oo, oo, oo, oo, oo, oo, oo, oo, oo, oo, oo, oo, oo, oo, oo, oo, oo, oo, oo, oo, (some (.v (.bool x_65))), oo, oo, oo, oo, oo, oo, oo, oo, oo, oo, oo, oo, oo, oo, oo, oo, oo, oo, oo, oo, oo, oo]
def L141_4 (x_0 : OA) (x_5 : List Nat) (x_65 : Bool) (l2_0 l2_1 : AV) (l2_2 l2_3 : AV) (l2_4 l3_0 : AV) (l3_1 l3_2 : AV) (l3_3 l4_0 : AV) (l4_1 l4_2 : AV) (l4_3 l4_4 : AV) : LL := [none, none, (some (.cells [l2_0, l2_1, l2_2, l2_3, l2_4])), (some (.cells [l3_0, l3_1, l3_2, l3_3])), (some (.cells [l4_0, l4_1, l4_2, l4_3, l4_4])), oo, oo, oo, oo, oo, oo, oo, oo, oo, oo, oo, oo, oo, oo, oo, oo, oo, oo, oo, oo, oo, oo, oo, oo, oo, oo, oo, oo, oo, oo, oo, oo, oo, oo, oo, oo, oo, oo, oo, oo, oo, oo, oo, oo, oo, oo, oo, oo, oo, oo, oo, oo, oo, oo, oo, oo, oo, oo, oo, oo, oo, oo, oo, oo, oo, oo, oo, oo, oo, oo, oo, oo, oo, oo, oo, oo, oo, oo, oo, oo, oo, oo, oo]
def T141_5 (l2_0 l2_1 : AV) (l2_2 l2_3 : AV) (l2_4 l3_0 : AV) (l3_1 l3_2 : AV) (l3_3 l4_0 : AV) (l4_1 l4_2 : AV) (l4_3 l4_4 : AV) : LF := [none, none, (some (.lptr 2 0)), (some (.lptr 3 0)), (some (.lptr 4 0)), oo, oo, oo, oo, oo, oo, oo, oo, oo, oo, oo, oo, oo, oo, oo, oo, oo, oo, oo, oo, oo, oo, oo, oo, oo, oo, oo, oo, oo, oo, oo, oo, oo, oo, oo, oo, oo, oo, oo, oo, oo, oo, oo, oo, oo, oo, oo, oo, oo, oo, oo, oo, oo, oo, oo, oo, oo, oo, oo, oo, oo, oo, oo, oo, oo, oo, oo, oo, oo, oo, oo, oo, oo, oo, oo, oo, oo, oo, oo, oo, oo, oo, oo]
def L141_5 (l2_0 l2_1 : AV) (l2_2 l2_3 : AV) (l2_4 l3_0 : AV) (l3_1 l3_2 : AV) (l3_3 l4_0 : AV) (l4_1 l4_2 : AV) (l4_3 l4_4 : AV) : LL := [none, none, (some (.cells [l2_0, l2_1, l2_2, l2_3, l2_4])), (some (.cells [l3_0, l3_1, l3_2, l3_3])), (some (.cells [l4_0, l4_1, l4_2, l4_3, l4_4])), oo, oo, oo, oo, oo, oo, oo, oo, oo, oo, oo, oo, oo, oo, oo, oo, oo, oo, oo, oo, oo, oo, oo, oo, oo, oo, oo, oo, oo, oo, oo, oo, oo, oo, oo, oo, oo, oo, oo, oo, oo, oo, oo, oo, oo, oo, oo, oo, oo, oo, oo, oo, oo, oo, oo, oo, oo, oo, oo, oo, oo, oo, oo, oo, oo, oo, oo, oo, oo, oo, oo, oo, oo, oo, oo, oo, oo, oo, oo, oo, oo, oo, oo]
theorem R141_5 (N : Nat) (call : CT) (l2_0 l2_1 : AV) (l2_2 l2_3 : AV) (l2_4 l3_0 : AV) (l3_1 l3_2 : AV) (l3_3 l4_0 : AV) (l4_1 l4_2 : AV) (l4_3 l4_4 : AV) (h : H) : E141_5 N call (T141_5 l2_0 l2_1 l2_2 l2_3 l2_4 l3_0 l3_1 l3_2 l3_3 l4_0 l4_1 l4_2 l4_3 l4_4) (L141_5 l2_0 l2_1 l2_2 l2_3 l2_4 l3_0 l3_1 l3_2 l3_3 l4_0 l4_1 l4_2 l4_3 l4_4) h = S141_5 call l2_0 l2_1 l2_2 l2_3 l2_4 l3_0 l3_1 l3_2 l3_3 l4_0 l4_1 l4_2 l4_3 l4_4 h := by kernel_rfl
theorem Z141_5 (N : Nat) (call : CT) (l2_0 l2_1 : AV) (l2_2 l2_3 : AV) (l2_4 l3_0 : AV) (l3_1 l3_2 : AV) (l3_3 l4_0 : AV) (l4_1 l4_2 : AV) (l4_3 l4_4 : AV) (h : H) : E141_5 N call (T141_5 l2_0 l2_1 l2_2 l2_3 l2_4 l3_0 l3_1 l3_2 l3_3 l4_0 l4_1 l4_2 l4_3 l4_4) (L141_5 l2_0 l2_1 l2_2 l2_3 l2_4 l3_0 l3_1 l3_2 l3_3 l4_0 l4_1 l4_2 l4_3 l4_4) h = C141_5 N call l2_0 l2_1 l2_2 l2_3 l2_4 l3_0 l3_1 l3_2 l3_3 l4_0 l4_1 l4_2 l4_3 l4_4 h := by
  have r := R141_5 N call l2_0 l2_1 l2_2 l2_3 l2_4 l3_0 l3_1 l3_2 l3_3 l4_0 l4_1 l4_2 l4_3 l4_4 h
  have z : S141_5 call l2_0 l2_1 l2_2 l2_3 l2_4 l3_0 l3_1 l3_2 l3_3 l4_0 l4_1 l4_2 l4_3 l4_4 h = C141_5 N call l2_0 l2_1 l2_2 l2_3 l2_4 l3_0 l3_1 l3_2 l3_3 l4_0 l4_1 l4_2 l4_3 l4_4 h := by kernel_rfl
  exact r.trans z
theorem R141_3 (N : Nat) (call : CT) (x_0 : OA) (l2_0 l2_1 : AV) (l2_2 l2_3 : AV) (l2_4 l3_0 : AV) (l3_1 l3_2 : AV) (l3_3 l4_0 : AV) (l4_1 l4_2 : AV) (l4_3 l4_4 : AV) (h : H) : E141_3 N call (T141_3 x_0 l2_0 l2_1 l2_2 l2_3 l2_4 l3_0 l3_1 l3_2 l3_3 l4_0 l4_1 l4_2 l4_3 l4_4) (L141_3 x_0 l2_0 l2_1 l2_2 l2_3 l2_4 l3_0 l3_1 l3_2 l3_3 l4_0 l4_1 l4_2 l4_3 l4_4) h = S141_3 call (fun (l2_0 l2_1 : AV) (l2_2 l2_3 : AV) (l2_4 l3_0 : AV) (l3_1 l3_2 : AV) (l3_3 l4_0 : AV) (l4_1 l4_2 : AV) (l4_3 l4_4 : AV) h => (E141_5 N call) (T141_5 l2_0 l2_1 l2_2 l2_3 l2_4 l3_0 l3_1 l3_2 l3_3 l4_0 l4_1 l4_2 l4_3 l4_4) (L141_5 l2_0 l2_1 l2_2 l2_3 l2_4 l3_0 l3_1 l3_2 l3_3 l4_0 l4_1 l4_2 l4_3 l4_4) h) x_0 l2_0 l2_1 l2_2 l2_3 l2_4 l3_0 l3_1 l3_2 l3_3 l4_0 l4_1 l4_2 l4_3 l4_4 h := by kernel_rfl
theorem Z141_3 (N : Nat) (call : CT) (x_0 : OA) (l2_0 l2_1 : AV) (l2_2 l2_3 : AV) (l2_4 l3_0 : AV) (l3_1 l3_2 : AV) (l3_3 l4_0 : AV) (l4_1 l4_2 : AV) (l4_3 l4_4 : AV) (h : H) : E141_3 N call (T141_3 x_0 l2_0 l2_1 l2_2 l2_3 l2_4 l3_0 l3_1 l3_2 l3_3 l4_0 l4_1 l4_2 l4_3 l4_4) (L141_3 x_0 l2_0 l2_1 l2_2 l2_3 l2_4 l3_0 l3_1 l3_2 l3_3 l4_0 l4_1 l4_2 l4_3 l4_4) h = C141_3 N call x_0 l2_0 l2_1 l2_2 l2_3 l2_4 l3_0 l3_1 l3_2 l3_3 l4_0 l4_1 l4_2 l4_3 l4_4 h := by
  have e5 : (fun (l2_0 l2_1 : AV) (l2_2 l2_3 : AV) (l2_4 l3_0 : AV) (l3_1 l3_2 : AV) (l3_3 l4_0 : AV) (l4_1 l4_2 : AV) (l4_3 l4_4 : AV) h => (E141_5 N call) (T141_5 l2_0 l2_1 l2_2 l2_3 l2_4 l3_0 l3_1 l3_2 l3_3 l4_0 l4_1 l4_2 l4_3 l4_4) (L141_5 l2_0 l2_1 l2_2 l2_3 l2_4 l3_0 l3_1 l3_2 l3_3 l4_0 l4_1 l4_2 l4_3 l4_4) h) = (C141_5 N call) := by
    funext l2_0 l2_1 l2_2 l2_3 l2_4 l3_0 l3_1 l3_2 l3_3 l4_0 l4_1 l4_2 l4_3 l4_4 h
    exact Z141_5 N call l2_0 l2_1 l2_2 l2_3 l2_4 l3_0 l3_1 l3_2 l3_3 l4_0 l4_1 l4_2 l4_3 l4_4 h
  have r := R141_3 N call x_0 l2_0 l2_1 l2_2 l2_3 l2_4 l3_0 l3_1 l3_2 l3_3 l4_0 l4_1 l4_2 l4_3 l4_4 h
  rw [e5] at r
  have z : S141_3 call (C141_5 N call) x_0 l2_0 l2_1 l2_2 l2_3 l2_4 l3_0 l3_1 l3_2 l3_3 l4_0 l4_1 l4_2 l4_3 l4_4 h = C141_3 N call x_0 l2_0 l2_1 l2_2 l2_3 l2_4 l3_0 l3_1 l3_2 l3_3 l4_0 l4_1 l4_2 l4_3 l4_4 h := by kernel_rfl
  exact r.trans z
theorem R141_4 (N : Nat) (call : CT) (x_0 : OA) (x_5 : List Nat) (x_65 : Bool) (l2_0 l2_1 : AV) (l2_2 l2_3 : AV) (l2_4 l3_0 : AV) (l3_1 l3_2 : AV) (l3_3 l4_0 : AV) (l4_1 l4_2 : AV) (l4_3 l4_4 : AV) (h : H) : E141_4 N call (T141_4 x_0 x_5 x_65 l2_0 l2_1 l2_2 l2_3 l2_4 l3_0 l3_1 l3_2 l3_3 l4_0 l4_1 l4_2 l4_3 l4_4) (L141_4 x_0 x_5 x_65 l2_0 l2_1 l2_2 l2_3 l2_4 l3_0 l3_1 l3_2 l3_3 l4_0 l4_1 l4_2 l4_3 l4_4) h = S141_4 call (fun (x_0 : OA) (l2_0 l2_1 : AV) (l2_2 l2_3 : AV) (l2_4 l3_0 : AV) (l3_1 l3_2 : AV) (l3_3 l4_0 : AV) (l4_1 l4_2 : AV) (l4_3 l4_4 : AV) h => (E141_3 N call) (T141_3 x_0 l2_0 l2_1 l2_2 l2_3 l2_4 l3_0 l3_1 l3_2 l3_3 l4_0 l4_1 l4_2 l4_3 l4_4) (L141_3 x_0 l2_0 l2_1 l2_2 l2_3 l2_4 l3_0 l3_1 l3_2 l3_3 l4_0 l4_1 l4_2 l4_3 l4_4) h) x_0 x_5 x_65 l2_0 l2_1 l2_2 l2_3 l2_4 l3_0 l3_1 l3_2 l3_3 l4_0 l4_1 l4_2 l4_3 l4_4 h := by kernel_rfl
theorem Z141_4 (N : Nat) (call : CT) (x_0 : OA) (x_5 : List Nat) (x_65 : Bool) (l2_0 l2_1 : AV) (l2_2 l2_3 : AV) (l2_4 l3_0 : AV) (l3_1 l3_2 : AV) (l3_3 l4_0 : AV) (l4_1 l4_2 : AV) (l4_3 l4_4 : AV) (h : H) : E141_4 N call (T141_4 x_0 x_5 x_65 l2_0 l2_1 l2_2 l2_3 l2_4 l3_0 l3_1 l3_2 l3_3 l4_0 l4_1 l4_2 l4_3 l4_4) (L141_4 x_0 x_5 x_65 l2_0 l2_1 l2_2 l2_3 l2_4 l3_0 l3_1 l3_2 l3_3 l4_0 l4_1 l4_2 l4_3 l4_4) h = C141_4 N call x_0 x_5 x_65 l2_0 l2_1 l2_2 l2_3 l2_4 l3_0 l3_1 l3_2 l3_3 l4_0 l4_1 l4_2 l4_3 l4_4 h := by
  have e3 : (fun (x_0 : OA) (l2_0 l2_1 : AV) (l2_2 l2_3 : AV) (l2_4 l3_0 : AV) (l3_1 l3_2 : AV) (l3_3 l4_0 : AV) (l4_1 l4_2 : AV) (l4_3 l4_4 : AV) h => (E141_3 N call) (T141_3 x_0 l2_0 l2_1 l2_2 l2_3 l2_4 l3_0 l3_1 l3_2 l3_3 l4_0 l4_1 l4_2 l4_3 l4_4) (L141_3 x_0 l2_0 l2_1 l2_2 l2_3 l2_4 l3_0 l3_1 l3_2 l3_3 l4_0 l4_1 l4_2 l4_3 l4_4) h) = (C141_3 N call) := by
    funext x_0 l2_0 l2_1 l2_2 l2_3 l2_4 l3_0 l3_1 l3_2 l3_3 l4_0 l4_1 l4_2 l4_3 l4_4 h
    exact Z141_3 N call x_0 l2_0 l2_1 l2_2 l2_3 l2_4 l3_0 l3_1 l3_2 l3_3 l4_0 l4_1 l4_2 l4_3 l4_4 h
  have r := R141_4 N call x_0 x_5 x_65 l2_0 l2_1 l2_2 l2_3 l2_4 l3_0 l3_1 l3_2 l3_3 l4_0 l4_1 l4_2 l4_3 l4_4 h
  rw [e3] at r
  have z : S141_4 call (C141_3 N call) x_0 x_5 x_65 l2_0 l2_1 l2_2 l2_3 l2_4 l3_0 l3_1 l3_2 l3_3 l4_0 l4_1 l4_2 l4_3 l4_4 h = C141_4 N call x_0 x_5 x_65 l2_0 l2_1 l2_2 l2_3 l2_4 l3_0 l3_1 l3_2 l3_3 l4_0 l4_1 l4_2 l4_3 l4_4 h := by kernel_rfl
  exact r.trans z
theorem R141_1 (N : Nat) (call : CT) (x_0 : OA) (l2_0 l2_1 : AV) (l2_2 l2_3 : AV) (l2_4 l3_0 : AV) (l3_1 l3_2 l3_3 : AV) (h : H) : E141_1 N call (T141_1 x_0 l2_0 l2_1 l2_2 l2_3 l2_4 l3_0 l3_1 l3_2 l3_3) (L141_1 x_0 l2_0 l2_1 l2_2 l2_3 l2_4 l3_0 l3_1 l3_2 l3_3) h = S141_1 call (fun (x_0 : OA) (x_5 : List Nat) (x_65 : Bool) (l2_0 l2_1 : AV) (l2_2 l2_3 : AV) (l2_4 l3_0 : AV) (l3_1 l3_2 : AV) (l3_3 l4_0 : AV) (l4_1 l4_2 : AV) (l4_3 l4_4 : AV) h => (E141_4 N call) (T141_4 x_0 x_5 x_65 l2_0 l2_1 l2_2 l2_3 l2_4 l3_0 l3_1 l3_2 l3_3 l4_0 l4_1 l4_2 l4_3 l4_4) (L141_4 x_0 x_5 x_65 l2_0 l2_1 l2_2 l2_3 l2_4 l3_0 l3_1 l3_2 l3_3 l4_0 l4_1 l4_2 l4_3 l4_4) h) x_0 l2_0 l2_1 l2_2 l2_3 l2_4 l3_0 l3_1 l3_2 l3_3 h := by kernel_rfl
theorem Z141_1 (N : Nat) (call : CT) (x_0 : OA) (l2_0 l2_1 : AV) (l2_2 l2_3 : AV) (l2_4 l3_0 : AV) (l3_1 l3_2 l3_3 : AV) (h : H) : E141_1 N call (T141_1 x_0 l2_0 l2_1 l2_2 l2_3 l2_4 l3_0 l3_1 l3_2 l3_3) (L141_1 x_0 l2_0 l2_1 l2_2 l2_3 l2_4 l3_0 l3_1 l3_2 l3_3) h = C141_1 N call x_0 l2_0 l2_1 l2_2 l2_3 l2_4 l3_0 l3_1 l3_2 l3_3 h := by
  have e4 : (fun (x_0 : OA) (x_5 : List Nat) (x_65 : Bool) (l2_0 l2_1 : AV) (l2_2 l2_3 : AV) (l2_4 l3_0 : AV) (l3_1 l3_2 : AV) (l3_3 l4_0 : AV) (l4_1 l4_2 : AV) (l4_3 l4_4 : AV) h => (E141_4 N call) (T141_4 x_0 x_5 x_65 l2_0 l2_1 l2_2 l2_3 l2_4 l3_0 l3_1 l3_2 l3_3 l4_0 l4_1 l4_2 l4_3 l4_4) (L141_4 x_0 x_5 x_65 l2_0 l2_1 l2_2 l2_3 l2_4 l3_0 l3_1 l3_2 l3_3 l4_0 l4_1 l4_2 l4_3 l4_4) h) = (C141_4 N call) := by
    funext x_0 x_5 x_65 l2_0 l2_1 l2_2 l2_3 l2_4 l3_0 l3_1 l3_2 l3_3 l4_0 l4_1 l4_2 l4_3 l4_4 h
    exact Z141_4 N call x_0 x_5 x_65 l2_0 l2_1 l2_2 l2_3 l2_4 l3_0 l3_1 l3_2 l3_3 l4_0 l4_1 l4_2 l4_3 l4_4 h
  have r := R141_1 N call x_0 l2_0 l2_1 l2_2 l2_3 l2_4 l3_0 l3_1 l3_2 l3_3 h
  rw [e4] at r
  have z : S141_1 call (C141_4 N call) x_0 l2_0 l2_1 l2_2 l2_3 l2_4 l3_0 l3_1 l3_2 l3_3 h = C141_1 N call x_0 l2_0 l2_1 l2_2 l2_3 l2_4 l3_0 l3_1 l3_2 l3_3 h := by kernel_rfl
  exact r.trans z
theorem R141_2 (N : Nat) (call : CT) (x_0 : OA) (x_41 : Bool) (l2_0 l2_1 : AV) (l2_2 l2_3 : AV) (l2_4 l3_0 : AV) (l3_1 l3_2 l3_3 : AV) (h : H) : E141_2 N call (T141_2 x_0 x_41 l2_0 l2_1 l2_2 l2_3 l2_4 l3_0 l3_1 l3_2 l3_3) (L141_2 x_0 x_41 l2_0 l2_1 l2_2 l2_3 l2_4 l3_0 l3_1 l3_2 l3_3) h = S141_2 call (fun (x_0 : OA) (l2_0 l2_1 : AV) (l2_2 l2_3 : AV) (l2_4 l3_0 : AV) (l3_1 l3_2 l3_3 : AV) h => (E141_1 N call) (T141_1 x_0 l2_0 l2_1 l2_2 l2_3 l2_4 l3_0 l3_1 l3_2 l3_3) (L141_1 x_0 l2_0 l2_1 l2_2 l2_3 l2_4 l3_0 l3_1 l3_2 l3_3) h) x_0 x_41 l2_0 l2_1 l2_2 l2_3 l2_4 l3_0 l3_1 l3_2 l3_3 h := by kernel_rfl
theorem Z141_2 (N : Nat) (call : CT) (x_0 : OA) (x_41 : Bool) (l2_0 l2_1 : AV) (l2_2 l2_3 : AV) (l2_4 l3_0 : AV) (l3_1 l3_2 l3_3 : AV) (h : H) : E141_2 N call (T141_2 x_0 x_41 l2_0 l2_1 l2_2 l2_3 l2_4 l3_0 l3_1 l3_2 l3_3) (L141_2 x_0 x_41 l2_0 l2_1 l2_2 l2_3 l2_4 l3_0 l3_1 l3_2 l3_3) h = C141_2 N call x_0 x_41 l2_0 l2_1 l2_2 l2_3 l2_4 l3_0 l3_1 l3_2 l3_3 h := by
  have e1 : (fun (x_0 : OA) (l2_0 l2_1 : AV) (l2_2 l2_3 : AV) (l2_4 l3_0 : AV) (l3_1 l3_2 l3_3 : AV) h => (E141_1 N call) (T141_1 x_0 l2_0 l2_1 l2_2 l2_3 l2_4 l3_0 l3_1 l3_2 l3_3) (L141_1 x_0 l2_0 l2_1 l2_2 l2_3 l2_4 l3_0 l3_1 l3_2 l3_3) h) = (C141_1 N call) := by
    funext x_0 l2_0 l2_1 l2_2 l2_3 l2_4 l3_0 l3_1 l3_2 l3_3 h
    exact Z141_1 N call x_0 l2_0 l2_1 l2_2 l2_3 l2_4 l3_0 l3_1 l3_2 l3_3 h
  have r := R141_2 N call x_0 x_41 l2_0 l2_1 l2_2 l2_3 l2_4 l3_0 l3_1 l3_2 l3_3 h
  rw [e1] at r
  have z : S141_2 call (C141_1 N call) x_0 x_41 l2_0 l2_1 l2_2 l2_3 l2_4 l3_0 l3_1 l3_2 l3_3 h = C141_2 N call x_0 x_41 l2_0 l2_1 l2_2 l2_3 l2_4 l3_0 l3_1 l3_2 l3_3 h := by kernel_rfl
  exact r.trans z
theorem R141_0 (N : Nat) (call : CT) (y0 : AV) (h : H) : body Tryz.prog N call Tryz.f141 A141.an [y0] h = S141_0 call (fun (x_0 : OA) (x_41 : Bool) (l2_0 l2_1 : AV) (l2_2 l2_3 : AV) (l2_4 l3_0 : AV) (l3_1 l3_2 l3_3 : AV) h => (E141_2 N call) (T141_2 x_0 x_41 l2_0 l2_1 l2_2 l2_3 l2_4 l3_0 l3_1 l3_2 l3_3) (L141_2 x_0 x_41 l2_0 l2_1 l2_2 l2_3 l2_4 l3_0 l3_1 l3_2 l3_3) h) y0 h := by kernel_rfl
theorem Z141 (N : Nat) (call : CT) (y0 : AV) (h : H) : body Tryz.prog N call Tryz.f141 A141.an [y0] h = S141 N call y0 h := by
  have e2 : (fun (x_0 : OA) (x_41 : Bool) (l2_0 l2_1 : AV) (l2_2 l2_3 : AV) (l2_4 l3_0 : AV) (l3_1 l3_2 l3_3 : AV) h => (E141_2 N call) (T141_2 x_0 x_41 l2_0 l2_1 l2_2 l2_3 l2_4 l3_0 l3_1 l3_2 l3_3) (L141_2 x_0 x_41 l2_0 l2_1 l2_2 l2_3 l2_4 l3_0 l3_1 l3_2 l3_3) h) = (C141_2 N call) := by
    funext x_0 x_41 l2_0 l2_1 l2_2 l2_3 l2_4 l3_0 l3_1 l3_2 l3_3 h
    exact Z141_2 N call x_0 x_41 l2_0 l2_1 l2_2 l2_3 l2_4 l3_0 l3_1 l3_2 l3_3 h
  have r := R141_0 N call y0 h
  rw [e2] at r
  have z : S141_0 call (C141_2 N call) y0 h = S141 N call y0 h := by kernel_rfl
  exact r.trans z
theorem V141 (N : Nat) (call : CT) (vs : List AV) (h : H) : body Tryz.prog N call Tryz.f141 A141.an vs h = row1 (fun y0 => S141 N call y0 h) vs := wrap1 (by kernel_rfl) (fun y0 => Z141 N call y0 h) vs
/- sibyl/runes.Class -/
def A143.a0 : Ann := .items [.op 0]
def A143.a1 : Ann := .items [.op 0, .op 1, .op 2]
def A143.a2 : Ann := .items [.op 0]
def A143.a3 : Ann := .leaf
def A143.a4 : Ann := .two A143.a2 A143.a3
def A143.a5 : Ann := .items [.op 0, .op 1, .op 2, .split 9, .op 3, .op 4, .op 5, .op 6]
def A143.a6 : Ann := .items [.op 0]
def A143.a7 : Ann := .leaf
def A143.a8 : Ann := .two A143.a6 A143.a7
def A143.a9 : Ann := .leaf
def A143.a10 : Ann := .two A143.a8 A143.a9
def A143.a11 : Ann := .join [0, 6] [] A143.a5 A143.a10
def A143.a12 : Ann := .two A143.a4 A143.a11
def A143.a13 : Ann := .two A143.a1 A143.a12
def A143.a14 : Ann := .one A143.a13
def A143.a15 : Ann := .items [.op 0]
def A143.a16 : Ann := .items [.op 0, .op 1]
def A143.a17 : Ann := .leaf
def A143.a18 : Ann := .items [.op 0, .op 1]
def A143.a19 : Ann := .leaf
def A143.a20 : Ann := .items [.op 0, .op 1]
def A143.a21 : Ann := .leaf
def A143.a22 : Ann := .items [.op 0, .op 1]
def A143.a23 : Ann := .two A143.a21 A143.a22
def A143.a24 : Ann := .two A143.a20 A143.a23
def A143.a25 : Ann := .two A143.a19 A143.a24
def A143.a26 : Ann := .two A143.a18 A143.a25
def A143.a27 : Ann := .two A143.a17 A143.a26
def A143.a28 : Ann := .two A143.a16 A143.a27
def A143.a29 : Ann := .items [.op 0]
def A143.a30 : Ann := .leaf
def A143.a31 : Ann := .two A143.a29 A143.a30
def A143.a32 : Ann := .items [.op 0, .op 1]
def A143.a33 : Ann := .leaf
def A143.a34 : Ann := .items [.op 0, .op 1]
def A143.a35 : Ann := .leaf
def A143.a36 : Ann := .items [.op 0, .op 1]
def A143.a37 : Ann := .leaf
def A143.a38 : Ann := .items [.op 0, .op 1]
def A143.a39 : Ann := .leaf
def A143.a40 : Ann := .items [.op 0, .op 1]
def A143.a41 : Ann := .leaf
def A143.a42 : Ann := .items [.op 0, .op 1]
def A143.a43 : Ann := .leaf
def A143.a44 : Ann := .items [.op 0, .op 1]
def A143.a45 : Ann := .leaf
def A143.a46 : Ann := .items [.op 0, .op 1]
def A143.a47 : Ann := .leaf
def A143.a48 : Ann := .items [.op 0, .op 1]
def A143.a49 : Ann := .leaf
def A143.a50 : Ann := .items [.op 0, .op 1]
def A143.a51 : Ann := .leaf
def A143.a52 : Ann := .items [.op 0, .op 1]
def A143.a53 : Ann := .leaf
def A143.a54 : Ann := .items [.op 0, .op 1]
def A143.a55 : Ann := .leaf
def A143.a56 : Ann := .items [.op 0, .op 1]
def A143.a57 : Ann := .leaf
def A143.a58 : Ann := .items [.op 0, .op 1]
def A143.a59 : Ann := .leaf
def A143.a60 : Ann := .items [.op 0, .op 1]
def A143.a61 : Ann := .leaf
def A143.a62 : Ann := .items [.op 0, .op 1]
def A143.a63 : Ann := .leaf
def A143.a64 : Ann := .items [.op 0, .op 1]
def A143.a65 : Ann := .two A143.a63 A143.a64
def A143.a66 : Ann := .two A143.a62 A143.a65
def A143.a67 : Ann := .two A143.a61 A143.a66
def A143.a68 : Ann := .two A143.a60 A143.a67
def A143.a69 : Ann := .two A143.a59 A143.a68
def A143.a70 : Ann := .two A143.a58 A143.a69
def A143.a71 : Ann := .two A143.a57 A143.a70
def A143.a72 : Ann := .two A143.a56 A143.a71
def A143.a73 : Ann := .two A143.a55 A143.a72
def A143.a74 : Ann := .two A143.a54 A143.a73
def A143.a75 : Ann := .two A143.a53 A143.a74
def A143.a76 : Ann := .two A143.a52 A143.a75
def A143.a77 : Ann := .two A143.a51 A143.a76
def A143.a78 : Ann := .two A143.a50 A143.a77
def A143.a79 : Ann := .two A143.a49 A143.a78
def A143.a80 : Ann := .two A143.a48 A143.a79
def A143.a81 : Ann := .two A143.a47 A143.a80
def A143.a82 : Ann := .two A143.a46 A143.a81
def A143.a83 : Ann := .two A143.a45 A143.a82
def A143.a84 : Ann := .two A143.a44 A143.a83
def A143.a85 : Ann := .two A143.a43 A143.a84
def A143.a86 : Ann := .two A143.a42 A143.a85
def A143.a87 : Ann := .two A143.a41 A143.a86
def A143.a88 : Ann := .two A143.a40 A143.a87
def A143.a89 : Ann := .two A143.a39 A143.a88
def A143.a90 : Ann := .two A143.a38 A143.a89
def A143.a91 : Ann := .two A143.a37 A143.a90
def A143.a92 : Ann := .two A143.a36 A143.a91
def A143.a93 : Ann := .two A143.a35 A143.a92
def A143.a94 : Ann := .two A143.a34 A143.a93
def A143.a95 : Ann := .two A143.a33 A143.a94
def A143.a96 : Ann := .two A143.a32 A143.a95
def A143.a97 : Ann := .items [.op 0]
def A143.a98 : Ann := .leaf
def A143.a99 : Ann := .two A143.a97 A143.a98
def A143.a100 : Ann := .leaf
def A143.a101 : Ann := .two A143.a99 A143.a100
def A143.a102 : Ann := .join [19] [] A143.a96 A143.a101
def A143.a103 : Ann := .two A143.a31 A143.a102
def A143.a104 : Ann := .join [13, 14] [] A143.a28 A143.a103
def A143.a105 : Ann := .one A143.a104
def A143.a106 : Ann := .two A143.a15 A143.a105
def A143.a107 : Ann := .items [.op 0]
def A143.a108 : Ann := .leaf
def A143.a109 : Ann := .two A143.a107 A143.a108
def A143.a110 : Ann := .join [] [] A143.a106 A143.a109
def A143.a111 : Ann := .join [0] [] A143.a14 A143.a110
def A143.an : Ann := .two A143.a0 A143.a111
def E143_1 (N : Nat) (call : CT) : K3 :=
  (codeK Tryz.prog N call (c2 (c2 (bodyOf Tryz.f143))) A143.a110 (resK Tryz.prog Tryz.f143.results.toList) (fun _ _ _ _ => none) (resK Tryz.prog Tryz.f143.results.toList))
def E143_2 (N : Nat) (call : CT) : K3 :=
  (codeK Tryz.prog N call (c2 (c2 (c2 (c1 (c1 (c2 (bodyOf Tryz.f143))))))) A143.a10 (fun T L h => (E143_1 N call) (keepT [0] T) (keepL [] L) h) (fun i T L h => match Nat.beq i 0 with | true => (fun T L h => (E143_1 N call) (keepT [0] T) (keepL [] L) h) T L h | false => (fun _ _ _ _ => none) i T L h) (resK Tryz.prog Tryz.f143.results.toList))
def E143_3 (N : Nat) (call : CT) : K3 :=
  (codeK Tryz.prog N call (c2 (c2 (c2 (bodyOf Tryz.f143)))) A143.a109 (resK Tryz.prog Tryz.f143.results.toList) (fun _ _ _ _ => none) (resK Tryz.prog Tryz.f143.results.toList))
def E143_4 (N : Nat) (call : CT) : K3 :=
  (codeK Tryz.prog N call (c2 (c1 (c2 (c1 (c2 (c2 (bodyOf Tryz.f143))))))) A143.a103 (fun T L h => (E143_3 N call) (keepT [] T) (keepL [] L) h) (fun i T L h => match Nat.beq i 1 with | true => (fun T L h => (E143_3 N call) (keepT [] T) (keepL [] L) h) T L h | false => (fun _ _ _ _ => none) i T L h) (resK Tryz.prog Tryz.f143.results.toList))
def E143_5 (N : Nat) (call : CT) : K3 :=
  (codeK Tryz.prog N call (c2 (c2 (c2 (c1 (c2 (c1 (c2 (c2 (bodyOf Tryz.f143))))))))) A143.a101 (fun T L h => (E143_3 N call) (keepT [] T) (keepL [] L) h) (fun i T L h => match Nat.beq i 1 with | true => (fun T L h => (E143_3 N call) (keepT [] T) (keepL [] L) h) T L h | false => (fun _ _ _ _ => none) i T L h) (resK Tryz.prog Tryz.f143.results.toList))
def S143_1 (call : CT) (k4 : Int → Bool → H → R) (x_0 : Int) (h : H) : R :=
  ifB (eqI x_0 (Int.ofNat 32)) (k4 x_0 (eqI x_0 (Int.ofNat 32)) h) (ifB (eqI x_0 (Int.ofNat 9)) (k4 x_0 (eqI x_0 (Int.ofNat 9)) h) (ifB (eqI x_0 (Int.ofNat 10)) (k4 x_0 (eqI x_0 (Int.ofNat 10)) h) (k4 x_0 (eqI x_0 (Int.ofNat 13)) h)))
def S143_2 (call : CT) (k1 : Int → H → R) (x_0 : Int) (x_6 : Bool) (h : H) : R :=
  ifB x_6 (some ((.int .i64 (Int.ofNat 2)), h)) (k1 x_0 h)
def S143_3 (call : CT) (h : H) : R :=
  some ((.int .i64 (Int.ofNat 0)), h)
def S143_4 (call : CT) (k5 : Bool → H → R) (x_13 : Int) (x_14 : Bool) (h : H) : R :=
  ifB x_14 (some ((.int .i64 (Int.ofNat 3)), h)) (ifB (eqI x_13 (Int.ofNat 61)) (k5 (eqI x_13 (Int.ofNat 61)) h) (ifB (eqI x_13 (Int.ofNat 126)) (k5 (eqI x_13 (Int.ofNat 126)) h) (ifB (eqI x_13 (Int.ofNat 60)) (k5 (eqI x_13 (Int.ofNat 60)) h) (ifB (eqI x_13 (Int.ofNat 62)) (k5 (eqI x_13 (Int.ofNat 62)) h) (ifB (eqI x_13 (Int.ofNat 38)) (k5 (eqI x_13 (Int.ofNat 38)) h) (ifB (eqI x_13 (Int.ofNat 124)) (k5 (eqI x_13 (Int.ofNat 124)) h) (ifB (eqI x_13 (Int.ofNat 40)) (k5 (eqI x_13 (Int.ofNat 40)) h) (ifB (eqI x_13 (Int.ofNat 41)) (k5 (eqI x_13 (Int.ofNat 41)) h) (ifB (eqI x_13 (Int.ofNat 123)) (k5 (eqI x_13 (Int.ofNat 123)) h) (ifB (eqI x_13 (Int.ofNat 125)) (k5 (eqI x_13 (Int.ofNat 125)) h) (ifB (eqI x_13 (Int.ofNat 44)) (k5 (eqI x_13 (Int.ofNat 44)) h) (ifB (eqI x_13 (Int.ofNat 59)) (k5 (eqI x_13 (Int.ofNat 59)) h) (ifB (eqI x_13 (Int.ofNat 58)) (k5 (eqI x_13 (Int.ofNat 58)) h) (ifB (eqI x_13 (Int.ofNat 43)) (k5 (eqI x_13 (Int.ofNat 43)) h) (ifB (eqI x_13 (Int.ofNat 92)) (k5 (eqI x_13 (Int.ofNat 92)) h) (ifB (eqI x_13 (Int.ofNat 35)) (k5 (eqI x_13 (Int.ofNat 35)) h) (k5 (eqI x_13 (Int.ofNat 39)) h)))))))))))))))))
def S143_5 (call : CT) (k3 : H → R) (x_19 : Bool) (h : H) : R :=
  ifB x_19 (some ((.int .i64 (Int.ofNat 4)), h)) (k3  h)
def S143_0 (call : CT) (k2 : Int → Bool → H → R) (y0 : AV) (h : H) : R :=
  onInt .i32 y0 (fun i1 => bindR (call 155 [(.int .i32 i1)] h) (fun v2 h3 => onBool v2 (fun e4 => ifB e4 (some ((.int .i64 (Int.ofNat 1)), h3)) (ifB (leI (Int.ofNat 48) i1) (k2 i1 (leI i1 (Int.ofNat 57)) h3) (k2 i1 false h3)))))
def C143_3 (N : Nat) (call : CT) : H → R := S143_3 call
def C143_5 (N : Nat) (call : CT) : Bool → H → R := S143_5 call (C143_3 N call)
def C143_4 (N : Nat) (call : CT) : Int → Bool → H → R := S143_4 call (C143_5 N call)
def C143_1 (N : Nat) (call : CT) : Int → H → R := S143_1 call (C143_4 N call)
def C143_2 (N : Nat) (call : CT) : Int → Bool → H → R := S143_2 call (C143_1 N call)
def S143 (N : Nat) (call : CT) (y0 : AV) (h : H) : R := S143_0 call (C143_2 N call) y0 h
def T143_1 (x_0 : Int) : LF := [(some (.v (.int .i32 x_0))), oo, oo, oo, oo, oo, oo, oo, oo, oo, oo, oo, oo, oo, oo, oo, oo, oo, oo, oo, oo, oo, oo, oo, oo, oo, oo, oo, oo, oo, oo, oo, oo, oo, oo, oo, oo]
def L143_1 (x_0 : Int) : LL := [oo, oo, oo, oo, oo, oo, oo, oo, oo, oo, oo, oo, oo, oo, oo, oo, oo, oo, oo, oo, oo, oo, oo, oo, oo, oo, oo, oo, oo, oo, oo, oo, oo, oo, oo, oo, oo]
def T143_2 (x_0 : Int) (x_6 : Bool) : LF := [(some (.v (.int .i32 x_0))), oo, oo, oo, oo, oo, (some (.v (.bool x_6))), oo, oo, oo, oo, oo, oo, oo, oo, oo, oo, oo, oo, oo, oo, oo, oo, oo, oo, oo, oo, oo, oo, oo, oo, oo, oo, oo, oo, oo, oo]
def L143_2 (x_0 : Int) (x_6 : Bool) : LL := [oo, oo, oo, oo, oo, oo, oo, oo, oo, oo, oo, oo, oo, oo, oo, oo, oo, oo, oo, oo, oo, oo, oo, oo, oo, oo, oo, oo, oo, oo, oo, oo, oo, oo, oo, oo, oo]
def T143_3 : LF := [oo, oo, oo, oo, oo, oo, oo, oo, oo, oo, oo, oo, oo, oo, oo, oo, oo, oo, oo, oo, oo, oo, oo, oo, oo, oo, oo, oo, oo, oo, oo, oo, oo, oo, oo, oo, oo]
def L143_3 : LL := [oo, oo, oo, oo, oo, oo, oo, oo, oo, oo, oo, oo, oo, oo, oo, oo, oo, oo, oo, oo, oo, oo, oo, oo, oo, oo, oo, oo, oo, oo, oo, oo, oo, oo, oo, oo, oo]
def T143_4 (x_13 : Int) (x_14 : Bool) : LF := [oo, oo, oo, oo, oo, oo, oo, oo, oo, oo, oo, oo, oo, (some (.v (.int .i32 x_13))), (some (.v (.bool x_14))), oo, oo, oo, oo, oo, oo, oo, oo, oo, oo, oo, oo, oo, oo, oo, oo, oo, oo, oo, oo, oo, oo]
def L143_4 (x_13 : Int) (x_14 : Bool) : LL := [oo, oo, oo, oo, oo, oo, oo, oo, oo, oo, oo, oo, oo, oo, oo, oo, oo, oo, oo, oo, oo, oo, oo, oo, oo, oo, oo, oo, oo, oo, oo, oo, oo, oo, oo, oo, oo]
def T143_5 (x_19 : Bool) : LF := [oo, oo, oo, oo, oo, oo, oo, oo, oo, oo, oo, oo, oo, oo, oo, oo, oo, oo, oo, (some (.v (.bool x_19))), oo, oo, oo, oo, oo, oo, oo, oo, oo, oo, oo, oo, oo, oo, oo, oo, oo]
def L143_5 (x_19 : Bool) : LL := [oo, oo, oo, oo, oo, oo, oo, oo, oo, oo, oo, oo, oo, oo, oo, oo, oo, oo, oo, oo, oo, oo, oo, oo, oo, oo, oo, oo, oo, oo, oo, oo, oo, oo, oo, oo, oo]
theorem R143_3 (N : Nat) (call : CT) (h : H) : E143_3 N call T143_3 L143_3 h = S143_3 call h := by kernel_rfl
theorem Z143_3 (N : Nat) (call : CT) (h : H) : E143_3 N call T143_3 L143_3 h = C143_3 N call h := by
  have r := R143_3 N call h
  have z : S143_3 call h = C143_3 N call h := by kernel_rfl
  exact r.trans z
theorem R143_5 (N : Nat) (call : CT) (x_19 : Bool) (h : H) : E143_5 N call (T143_5 x_19) (L143_5 x_19) h = S143_5 call (fun  h => (E143_3 N call) T143_3 L143_3 h) x_19 h := by kernel_rfl
theorem Z143_5 (N : Nat) (call : CT) (x_19 : Bool) (h : H) : E143_5 N call (T143_5 x_19) (L143_5 x_19) h = C143_5 N call x_19 h := by
  have e3 : (fun  h => (E143_3 N call) T143_3 L143_3 h) = (C143_3 N call) := by
    funext  h
    exact Z143_3 N call h
  have r := R143_5 N call x_19 h
  rw [e3] at r
  have z : S143_5 call (C143_3 N call) x_19 h = C143_5 N call x_19 h := by kernel_rfl
  exact r.trans z
theorem R143_4 (N : Nat) (call : CT) (x_13 : Int) (x_14 : Bool) (h : H) : E143_4 N call (T143_4 x_13 x_14) (L143_4 x_13 x_14) h = S143_4 call (fun (x_19 : Bool) h => (E143_5 N call) (T143_5 x_19) (L143_5 x_19) h) x_13 x_14 h := by kernel_rfl
theorem Z143_4 (N : Nat) (call : CT) (x_13 : Int) (x_14 : Bool) (h : H) : E143_4 N call (T143_4 x_13 x_14) (L143_4 x_13 x_14) h = C143_4 N call x_13 x_14 h := by
  have e5 : (fun (x_19 : Bool) h => (E143_5 N call) (T143_5 x_19) (L143_5 x_19) h) = (C143_5 N call) := by
    funext x_19 h
    exact Z143_5 N call x_19 h
  have r := R143_4 N call x_13 x_14 h
  rw [e5] at r
  have z : S143_4 call (C143_5 N call) x_13 x_14 h = C143_4 N call x_13 x_14 h := by kernel_rfl
  exact r.trans z
theorem R143_1 (N : Nat) (call : CT) (x_0 : Int) (h : H) : E143_1 N call (T143_1 x_0) (L143_1 x_0) h = S143_1 call (fun (x_13 : Int) (x_14 : Bool) h => (E143_4 N call) (T143_4 x_13 x_14) (L143_4 x_13 x_14) h) x_0 h := by kernel_rfl
theorem Z143_1 (N : Nat) (call : CT) (x_0 : Int) (h : H) : E143_1 N call (T143_1 x_0) (L143_1 x_0) h = C143_1 N call x_0 h := by
  have e4 : (fun (x_13 : Int) (x_14 : Bool) h => (E143_4 N call) (T143_4 x_13 x_14) (L143_4 x_13 x_14) h) = (C143_4 N call) := by
    funext x_13 x_14 h
    exact Z143_4 N call x_13 x_14 h
  have r := R143_1 N call x_0 h
  rw [e4] at r
  have z : S143_1 call (C143_4 N call) x_0 h = C143_1 N call x_0 h := by kernel_rfl
  exact r.trans z
theorem R143_2 (N : Nat) (call : CT) (x_0 : Int) (x_6 : Bool) (h : H) : E143_2 N call (T143_2 x_0 x_6) (L143_2 x_0 x_6) h = S143_2 call (fun (x_0 : Int) h => (E143_1 N call) (T143_1 x_0) (L143_1 x_0) h) x_0 x_6 h := by kernel_rfl
theorem Z143_2 (N : Nat) (call : CT) (x_0 : Int) (x_6 : Bool) (h : H) : E143_2 N call (T143_2 x_0 x_6) (L143_2 x_0 x_6) h = C143_2 N call x_0 x_6 h := by
  have e1 : (fun (x_0 : Int) h => (E143_1 N call) (T143_1 x_0) (L143_1 x_0) h) = (C143_1 N call) := by
    funext x_0 h
    exact Z143_1 N call x_0 h
  have r := R143_2 N call x_0 x_6 h
  rw [e1] at r
  have z : S143_2 call (C143_1 N call) x_0 x_6 h = C143_2 N call x_0 x_6 h := by kernel_rfl
  exact r.trans z
theorem R143_0 (N : Nat) (call : CT) (y0 : AV) (h : H) : body Tryz.prog N call Tryz.f143 A143.an [y0] h = S143_0 call (fun (x_0 : Int) (x_6 : Bool) h => (E143_2 N call) (T143_2 x_0 x_6) (L143_2 x_0 x_6) h) y0 h := by kernel_rfl
theorem Z143 (N : Nat) (call : CT) (y0 : AV) (h : H) : body Tryz.prog N call Tryz.f143 A143.an [y0] h = S143 N call y0 h := by
  have e2 : (fun (x_0 : Int) (x_6 : Bool) h => (E143_2 N call) (T143_2 x_0 x_6) (L143_2 x_0 x_6) h) = (C143_2 N call) := by
    funext x_0 x_6 h
    exact Z143_2 N call x_0 x_6 h
  have r := R143_0 N call y0 h
  rw [e2] at r
  have z : S143_0 call (C143_2 N call) y0 h = S143 N call y0 h := by kernel_rfl
  exact r.trans z
theorem V143 (N : Nat) (call : CT) (vs : List AV) (h : H) : body Tryz.prog N call Tryz.f143 A143.an vs h = row1 (fun y0 => S143 N call y0 h) vs := wrap1 (by kernel_rfl) (fun y0 => Z143 N call y0 h) vs
/- (*sibyl/lex.lexer).isMore -/
def A144.a0 : Ann := .items [.op 0]
def A144.a1 : Ann := .items [.op 0, .op 1, .op 2]
def A144.a2 : Ann := .drawn [.op 0, .op 1, .op 2, .split 8, .op 3, .op 4, .op 5, .op 6, .split 12, .op 7, .op 8, .op 9, .split 15, .op 10, .op 11, .op 12, .op 13, .op 14, .op 15, .op 16, .op 17, .op 18, .op 19, .op 20, .op 21, .op 22, .op 23, .op 24]
def A144.a3 : Ann := .leaf
def A144.a4 : Ann := .two A144.a2 A144.a3
def A144.a5 : Ann := .two A144.a1 A144.a4
def A144.an : Ann := .two A144.a0 A144.a5
def S144_0 (call : CT) (y0 : AV) (h : H) : R :=
  onPtr y0 (fun p1 => bindR (call 130 [(.ptr p1)] h) (fun v2 h3 => onInt .i64 v2 (fun i4 => ifB (eqI i4 (Int.ofNat 1)) (some ((.bool true), h3)) (ifB (eqI i4 (Int.ofNat 2)) (some ((.bool true), h3)) (ifB (eqI i4 (Int.ofNat 4)) (onSome p1 (fun b5 o6 => ldK h3 b5 (o6 + 1) 1 (one (fun v7 => onSlice v7 (fun a8 n9 c10 => onSome p1 (fun b11 o12 => ldK h3 b11 (o12 + 3) 1 (one (fun v13 => onInt .i64 v13 (fun i14 => idxAddr 2 a8 n9 i14 (fun b15 o16 => ldK h3 b15 (o16 + 0) 1 (one (fun v17 => onInt .i32 v17 (fun i18 => some ((.bool (eqI i18 (Int.ofNat 39))), h3)))))))))))))) (some ((.bool false), h3)))))))
def S144 (N : Nat) (call : CT) (y0 : AV) (h : H) : R := S144_0 call y0 h
theorem R144_0 (N : Nat) (call : CT) (y0 : AV) (h : H) : body Tryz.prog N call Tryz.f144 A144.an [y0] h = S144_0 call y0 h := by kernel_rfl
theorem Z144 (N : Nat) (call : CT) (y0 : AV) (h : H) : body Tryz.prog N call Tryz.f144 A144.an [y0] h = S144 N call y0 h := by
  have r := R144_0 N call y0 h
  have z : S144_0 call y0 h = S144 N call y0 h := by kernel_rfl
  exact r.trans z
theorem V144 (N : Nat) (call : CT) (vs : List AV) (h : H) : body Tryz.prog N call Tryz.f144 A144.an vs h = row1 (fun y0 => S144 N call y0 h) vs := wrap1 (by kernel_rfl) (fun y0 => Z144 N call y0 h) vs
/- sibyl/lex.Words -/
def A145.a0 : Ann := .items [.op 0]
def A145.a1 : Ann := .items [.op 0, .op 1]
def A145.a2 : Ann := .leaf
def A145.a3 : Ann := .two A145.a1 A145.a2
def A145.an : Ann := .two A145.a0 A145.a3
def S145_0 (call : CT) (h : H) : R :=
  newK h [(.str [116, 114, 117, 101]), (.str [102, 97, 108, 115, 101]), (.str [101, 120, 48]), (.str [101, 120, 49]), (.str [101, 120, 50]), (.str [97, 108, 108, 48]), (.str [97, 108, 108, 49]), (.str [97, 108, 108, 50]), (.str [118, 97, 114, 48]), (.str [118, 97, 114, 49]), (.str [118, 97, 114, 50]), (.str [112, 114, 101, 100]), (.str [105, 110]), (.str [110, 111, 116, 105, 110]), (.str [115, 117, 98]), (.str [117, 110, 105, 111, 110]), (.str [105, 110, 116, 101, 114])] (fun b1 h2 => some ((.slice (some (b1, 0)) 17 (some 17)), h2))
def S145 (N : Nat) (call : CT) (h : H) : R := S145_0 call h
theorem R145_0 (N : Nat) (call : CT) (h : H) : body Tryz.prog N call Tryz.f145 A145.an [] h = S145_0 call h := by kernel_rfl
theorem Z145 (N : Nat) (call : CT) (h : H) : body Tryz.prog N call Tryz.f145 A145.an [] h = S145 N call h := by
  have r := R145_0 N call h
  have z : S145_0 call h = S145 N call h := by kernel_rfl
  exact r.trans z
theorem V145 (N : Nat) (call : CT) (vs : List AV) (h : H) : body Tryz.prog N call Tryz.f145 A145.an vs h = row0 (S145 N call h) vs := wrap0 (by kernel_rfl) (Z145 N call h) vs
/- sibyl/lex.length -/
def A146.a0 : Ann := .items [.op 0]
def A146.a1 : Ann := .items [.op 0]
def A146.a2 : Ann := .items [.op 0, .opL 1]
def A146.a3 : Ann := .items [.op 0, .op 1]
def A146.a4 : Ann := .leaf
def A146.a5 : Ann := .leaf
def A146.a6 : Ann := .two A146.a4 A146.a5
def A146.a7 : Ann := .items [.op 0, .op 1, .op 2]
def A146.a8 : Ann := .one A146.a7
def A146.a9 : Ann := .two A146.a6 A146.a8
def A146.a10 : Ann := .join [3, 5, 7] [5] A146.a3 A146.a9
def A146.a11 : Ann := .meet [3, 5] [5] A146.a10
def A146.a12 : Ann := .one A146.a11
def A146.a13 : Ann := .two A146.a2 A146.a12
def A146.a14 : Ann := .items [.op 0, .op 1]
def A146.a15 : Ann := .leaf
def A146.a16 : Ann := .two A146.a14 A146.a15
def A146.a17 : Ann := .two A146.a13 A146.a16
def A146.a18 : Ann := .two A146.a1 A146.a17
def A146.an : Ann := .two A146.a0 A146.a18
def F146_1 (N : Nat) (call : CT) (self : K3) : K3 :=
  (codeK Tryz.prog N call (c1 (c1 (c2 (c1 (c2 (c2 (bodyOf Tryz.f146))))))) A146.a10 (fun T L h => self (keepT [3, 5] T) (keepL [5] L) h) (fun i T L h => match Nat.beq i 0 with | true => (codeK Tryz.prog N call (c2 (c2 (c2 (bodyOf Tryz.f146)))) A146.a16 (resK Tryz.prog Tryz.f146.results.toList) (fun _ _ _ _ => none) (resK Tryz.prog Tryz.f146.results.toList)) T L h | false => (fun _ _ _ _ => none) i T L h) (resK Tryz.prog Tryz.f146.results.toList))
def E146_1 (N : Nat) (call : CT) : K3 := iter (F146_1 N call) N
def E146_2 (N : Nat) (call : CT) (D1 : K3) : K3 :=
  (codeK Tryz.prog N call (c2 (c1 (c1 (c2 (c1 (c2 (c2 (bodyOf Tryz.f146)))))))) A146.a9 (fun T L h => D1 (keepT [3, 5] T) (keepL [5] L) h) (fun i T L h => match Nat.beq i 0 with | true => (codeK Tryz.prog N call (c2 (c2 (c2 (bodyOf Tryz.f146)))) A146.a16 (resK Tryz.prog Tryz.f146.results.toList) (fun _ _ _ _ => none) (resK Tryz.prog Tryz.f146.results.toList)) T L h | false => (fun _ _ _ _ => none) i T L h) (resK Tryz.prog Tryz.f146.results.toList))
def S146_1 (call : CT) (k2 : Int → Bool → List Nat → Nat → H → R) (x_3 : Int) (is5 : List Nat) (ip5 : Nat) (h : H) : R :=
  nextS is5 (fun r1 w2 => k2 x_3 true (is5.drop w2) (ip5 + w2) h) (k2 x_3 false is5 ip5 h)
def S146_2 (call : CT) (k1 : Int → List Nat → Nat → H → R) (x_3 : Int) (x_7 : Bool) (is5 : List Nat) (ip5 : Nat) (h : H) : R :=
  ifB x_7 (k1 (wrapF .i64 (Int.add x_3 (Int.ofNat 1))) is5 ip5 h) (some ((.int .i64 x_3), h))
def S146_0 (call : CT) (k1 : Int → List Nat → Nat → H → R) (y0 : AV) (h : H) : R :=
  onStr y0 (fun s1 => k1 (Int.ofNat 0) s1 0 h)
def C146_2 (N : Nat) (call : CT) (k1 : Int → List Nat → Nat → H → R) : Int → Bool → List Nat → Nat → H → R := S146_2 call k1
def B146_1 (N : Nat) (call : CT) (ih : Int → List Nat → Nat → H → R) : Int → List Nat → Nat → H → R := S146_1 call (C146_2 N call ih)
def I146_1 (N : Nat) (call : CT) (n : Nat) : Int → List Nat → Nat → H → R := Nat.rec (motive := fun _ => Int → List Nat → Nat → H → R) (fun _ _ _ _ => none) (fun _ ih => B146_1 N call ih) n
def C146_1 (N : Nat) (call : CT) : Int → List Nat → Nat → H → R := I146_1 N call N
def S146 (N : Nat) (call : CT) (y0 : AV) (h : H) : R := S146_0 call (C146_1 N call) y0 h
def T146_1 (x_3 : Int) (is5 : List Nat) (ip5 : Nat) : LF := [oo, oo, oo, (some (.v (.int .i64 x_3))), none, (some (.lptr 5 0)), oo, oo, oo, oo, oo]
def L146_1 (x_3 : Int) (is5 : List Nat) (ip5 : Nat) : LL := [oo, oo, oo, oo, oo, (some (.iter is5 ip5)), oo, oo, oo, oo, oo]
def T146_2 (x_3 : Int) (x_7 : Bool) (is5 : List Nat) (ip5 : Nat) : LF := [oo, oo, oo, (some (.v (.int .i64 x_3))), none, (some (.lptr 5 0)), none, (some (.v (.bool x_7))), none, none, none]
def L146_2 (x_3 : Int) (x_7 : Bool) (is5 : List Nat) (ip5 : Nat) : LL := [oo, oo, oo, oo, oo, (some (.iter is5 ip5)), oo, oo, oo, oo, oo]
theorem R146_2 (N : Nat) (call : CT) (D1 : K3) (x_3 : Int) (x_7 : Bool) (is5 : List Nat) (ip5 : Nat) (h : H) : E146_2 N call D1 (T146_2 x_3 x_7 is5 ip5) (L146_2 x_3 x_7 is5 ip5) h = S146_2 call (fun (x_3 : Int) (is5 : List Nat) (ip5 : Nat) h => D1 (T146_1 x_3 is5 ip5) (L146_1 x_3 is5 ip5) h) x_3 x_7 is5 ip5 h := by kernel_rfl
theorem Z146_2 (N : Nat) (call : CT) (D1 : K3) (x_3 : Int) (x_7 : Bool) (is5 : List Nat) (ip5 : Nat) (h : H) : E146_2 N call D1 (T146_2 x_3 x_7 is5 ip5) (L146_2 x_3 x_7 is5 ip5) h = C146_2 N call (fun (x_3 : Int) (is5 : List Nat) (ip5 : Nat) h => D1 (T146_1 x_3 is5 ip5) (L146_1 x_3 is5 ip5) h) x_3 x_7 is5 ip5 h := by
  have r := R146_2 N call D1 x_3 x_7 is5 ip5 h
  have z : S146_2 call (fun (x_3 : Int) (is5 : List Nat) (ip5 : Nat) h => D1 (T146_1 x_3 is5 ip5) (L146_1 x_3 is5 ip5) h) x_3 x_7 is5 ip5 h = C146_2 N call (fun (x_3 : Int) (is5 : List Nat) (ip5 : Nat) h => D1 (T146_1 x_3 is5 ip5) (L146_1 x_3 is5 ip5) h) x_3 x_7 is5 ip5 h := by kernel_rfl
  exact r.trans z
theorem R146_1 (N : Nat) (call : CT) (self : K3) (x_3 : Int) (is5 : List Nat) (ip5 : Nat) (h : H) : F146_1 N call self (T146_1 x_3 is5 ip5) (L146_1 x_3 is5 ip5) h = S146_1 call (fun (x_3 : Int) (x_7 : Bool) (is5 : List Nat) (ip5 : Nat) h => (E146_2 N call self) (T146_2 x_3 x_7 is5 ip5) (L146_2 x_3 x_7 is5 ip5) h) x_3 is5 ip5 h := by kernel_rfl
theorem Q146_1 (N : Nat) (call : CT) (n : Nat) : ∀ (x_3 : Int) (is5 : List Nat) (ip5 : Nat) (h : H), (iter (F146_1 N call) n) (T146_1 x_3 is5 ip5) (L146_1 x_3 is5 ip5) h = I146_1 N call n x_3 is5 ip5 h := by
  induction n with
  | zero => intros; exact (iter_zero _ _ _ _).trans (by kernel_rfl)
  | succ n ih =>
    intro x_3 is5 ip5 h
    have e0 : (fun (x_3 : Int) (is5 : List Nat) (ip5 : Nat) h => (iter (F146_1 N call) n) (T146_1 x_3 is5 ip5) (L146_1 x_3 is5 ip5) h) = (I146_1 N call n) := by funext x_3 is5 ip5 h; exact ih x_3 is5 ip5 h
    have e2 : (fun (x_3 : Int) (x_7 : Bool) (is5 : List Nat) (ip5 : Nat) h => (E146_2 N call (iter (F146_1 N call) n)) (T146_2 x_3 x_7 is5 ip5) (L146_2 x_3 x_7 is5 ip5) h) = (C146_2 N call (I146_1 N call n)) := by
      funext x_3 x_7 is5 ip5 h
      have q := Z146_2 N call (iter (F146_1 N call) n) x_3 x_7 is5 ip5 h
      rw [e0] at q
      exact q
    have r := R146_1 N call (iter (F146_1 N call) n) x_3 is5 ip5 h
    rw [e2] at r
    have g := iter_succ (F146_1 N call) n (T146_1 x_3 is5 ip5) (L146_1 x_3 is5 ip5) h
    have z : S146_1 call (C146_2 N call (I146_1 N call n)) x_3 is5 ip5 h = I146_1 N call (n + 1) x_3 is5 ip5 h := by kernel_rfl
    exact g.trans (r.trans z)
theorem Z146_1 (N : Nat) (call : CT) (x_3 : Int) (is5 : List Nat) (ip5 : Nat) (h : H) : (E146_1 N call) (T146_1 x_3 is5 ip5) (L146_1 x_3 is5 ip5) h = C146_1 N call x_3 is5 ip5 h := by
  have g : (E146_1 N call) (T146_1 x_3 is5 ip5) (L146_1 x_3 is5 ip5) h = iter (F146_1 N call) N (T146_1 x_3 is5 ip5) (L146_1 x_3 is5 ip5) h := by kernel_rfl
  have z : I146_1 N call N x_3 is5 ip5 h = C146_1 N call x_3 is5 ip5 h := by kernel_rfl
  exact g.trans ((Q146_1 N call N x_3 is5 ip5 h).trans z)
theorem R146_0 (N : Nat) (call : CT) (y0 : AV) (h : H) : body Tryz.prog N call Tryz.f146 A146.an [y0] h = S146_0 call (fun (x_3 : Int) (is5 : List Nat) (ip5 : Nat) h => (E146_1 N call) (T146_1 x_3 is5 ip5) (L146_1 x_3 is5 ip5) h) y0 h := by kernel_rfl
theorem Z146 (N : Nat) (call : CT) (y0 : AV) (h : H) : body Tryz.prog N call Tryz.f146 A146.an [y0] h = S146 N call y0 h := by
  have e1 : (fun (x_3 : Int) (is5 : List Nat) (ip5 : Nat) h => (E146_1 N call) (T146_1 x_3 is5 ip5) (L146_1 x_3 is5 ip5) h) = (C146_1 N call) := by
    funext x_3 is5 ip5 h
    exact Z146_1 N call x_3 is5 ip5 h
  have r := R146_0 N call y0 h
  rw [e1] at r
  have z : S146_0 call (C146_1 N call) y0 h = S146 N call y0 h := by kernel_rfl
  exact r.trans z
theorem V146 (N : Nat) (call : CT) (vs : List AV) (h : H) : body Tryz.prog N call Tryz.f146 A146.an vs h = row1 (fun y0 => S146 N call y0 h) vs := wrap1 (by kernel_rfl) (fun y0 => Z146 N call y0 h) vs
/- (*sibyl/sibylref4.parser).row -/
def A151.a0 : Ann := .items [.op 0]
def A151.a1 : Ann := .items [.op 0]
def A151.a2 : Ann := .items [.op 0, .op 1, .op 2]
def A151.a3 : Ann := .items [.op 0, .op 1]
def A151.a4 : Ann := .leaf
def A151.a5 : Ann := .two A151.a3 A151.a4
def A151.a6 : Ann := .leaf
def A151.a7 : Ann := .two A151.a5 A151.a6
def A151.a8 : Ann := .two A151.a2 A151.a7
def A151.a9 : Ann := .items [.op 0, .op 1, .op 2, .op 3, .op 4]
def A151.a10 : Ann := .leaf
def A151.a11 : Ann := .leaf
def A151.a12 : Ann := .two A151.a10 A151.a11
def A151.a13 : Ann := .two A151.a9 A151.a12
def A151.a14 : Ann := .items [.op 0, .op 1, .op 2]
def A151.a15 : Ann := .items [.op 0, .op 1, .op 2, .op 3, .op 4]
def A151.a16 : Ann := .items [.op 0, .op 1]
def A151.a17 : Ann := .leaf
def A151.a18 : Ann := .two A151.a16 A151.a17
def A151.a19 : Ann := .two A151.a15 A151.a18
def A151.a20 : Ann := .leaf
def A151.a21 : Ann := .two A151.a19 A151.a20
def A151.a22 : Ann := .two A151.a14 A151.a21
def A151.a23 : Ann := .items [.op 0]
def A151.a24 : Ann := .items [.op 0, .op 1, .op 2, .opL 3, .op 4, .op 5]
def A151.a25 : Ann := .items [.op 0, .op 1, .op 2, .opL 3, .op 4, .op 5]
def A151.a26 : Ann := .two A151.a24 A151.a25
def A151.a27 : Ann := .two A151.a23 A151.a26
def A151.a28 : Ann := .items [.op 0, .op 1, .op 2]
def A151.a29 : Ann := .items [.op 0, .op 1, .op 2]
def A151.a30 : Ann := .items [.op 0, .op 1]
def A151.a31 : Ann := .leaf
def A151.a32 : Ann := .two A151.a30 A151.a31
def A151.a33 : Ann := .two A151.a29 A151.a32
def A151.a34 : Ann := .leaf
def A151.a35 : Ann := .two A151.a33 A151.a34
def A151.a36 : Ann := .two A151.a28 A151.a35
def A151.a37 : Ann := .join [0, 1, 2, 7] [] A151.a27 A151.a36
def A151.a38 : Ann := .two A151.a22 A151.a37
def A151.a39 : Ann := .one A151.a38
def A151.a40 : Ann := .two A151.a13 A151.a39
def A151.a41 : Ann := .meet [0, 1, 2, 7] [] A151.a40
def A151.a42 : Ann := .one A151.a41
def A151.a43 : Ann := .items [.op 0, .op 1]
def A151.a44 : Ann := .leaf
def A151.a45 : Ann := .two A151.a43 A151.a44
def A151.a46 : Ann := .two A151.a42 A151.a45
def A151.a47 : Ann := .two A151.a8 A151.a46
def A151.a48 : Ann := .two A151.a1 A151.a47
def A151.an : Ann := .two A151.a0 A151.a48
def F151_1 (N : Nat) (call : CT) (self : K3) : K3 :=
  (codeK Tryz.prog N call (c1 (c1 (c1 (c2 (c2 (c2 (bodyOf Tryz.f151))))))) A151.a40 (fun T L h => self (keepT [0, 1, 2, 7] T) (keepL [] L) h) (fun i T L h => match Nat.beq i 0 with | true => (codeK Tryz.prog N call (c2 (c2 (c2 (c2 (bodyOf Tryz.f151))))) A151.a45 (resK Tryz.prog Tryz.f151.results.toList) (fun _ _ _ _ => none) (resK Tryz.prog Tryz.f151.results.toList)) T L h | false => (fun _ _ _ _ => none) i T L h) (resK Tryz.prog Tryz.f151.results.toList))
def E151_1 (N : Nat) (call : CT) : K3 := iter (F151_1 N call) N
def E151_2 (N : Nat) (call : CT) (D1 : K3) : K3 :=
  (codeK Tryz.prog N call (c2 (c2 (c1 (c2 (c1 (c1 (c1 (c2 (c2 (c2 (bodyOf Tryz.f151))))))))))) A151.a36 (fun T L h => D1 (keepT [0, 1, 2, 7] T) (keepL [] L) h) (fun i T L h => match Nat.beq i 1 with | true => (fun T L h => D1 (keepT [0, 1, 2, 7] T) (keepL [] L) h) T L h | false => (fun i T L h => match Nat.beq i 0 with | true => (codeK Tryz.prog N call (c2 (c2 (c2 (c2 (bodyOf Tryz.f151))))) A151.a45 (resK Tryz.prog Tryz.f151.results.toList) (fun _ _ _ _ => none) (resK Tryz.prog Tryz.f151.results.toList)) T L h | false => (fun _ _ _ _ => none) i T L h) i T L h) (resK Tryz.prog Tryz.f151.results.toList))
def S151_1 (call : CT) (k2 : OA → List Nat → Bool → OA → Nat → Option Nat → H → R) (x_0 : OA) (x_1 : List Nat) (x_2 : Bool) (a_7 : OA) (n_7 : Nat) (c_7 : Option Nat) (h : H) : R :=
  onSome x_0 (fun b1 o2 => ldK h b1 (o2 + 2) 1 (one (fun v3 => onInt .i64 v3 (fun i4 => ifB (eqI i4 (Int.ofNat 0)) (ifB (eqI (Int.ofNat n_7) (Int.ofNat 6)) (bindR (call 34 [(.ptr x_0)] h) (fun v5 h6 => onAgR v5 (fun l11 => row4 (fun x7 x8 x9 x10 => onInt .i64 x10 (fun i12 => bindR (call 35 [(.ptr x_0), (.int .i64 i12), (.int .i64 (Int.ofNat 2))] h6) (fun v13 h14 => some ((.slice a_7 n_7 c_7), h14)))) l11))) (ifB x_2 (bindR (call 157 [(.ptr x_0), (.bool true)] h) (fun v15 h16 => onAgR v15 (fun l22 => row5 (fun x17 x18 x19 x20 x21 => appL h16 5 a_7 n_7 c_7 1 [x17, x18, x19, x20, x21] (fun a23 n24 c25 h26 => k2 x_0 x_1 x_2 a23 n24 c25 h26)) l22))) (bindR (call 152 [(.ptr x_0)] h) (fun v27 h28 => onAgR v27 (fun l34 => row5 (fun x29 x30 x31 x32 x33 => appL h28 5 a_7 n_7 c_7 1 [x29, x30, x31, x32, x33] (fun a35 n36 c37 h38 => k2 x_0 x_1 x_2 a35 n36 c37 h38)) l34))))) (some ((.slice a_7 n_7 c_7), h))))))
def S151_2 (call : CT) (k1 : OA → List Nat → Bool → OA → Nat → Option Nat → H → R) (x_0 : OA) (x_1 : List Nat) (x_2 : Bool) (a_7 : OA) (n_7 : Nat) (c_7 : Option Nat) (h : H) : R :=
  bindR (call 58 [(.ptr x_0), (.str [44])] h) (fun v1 h2 => onBool v1 (fun e3 => ifB (!e3) (bindR (call 33 [(.ptr x_0), (.str x_1)] h2) (fun v4 h5 => some ((.slice a_7 n_7 c_7), h5))) (k1 x_0 x_1 x_2 a_7 n_7 c_7 h2)))
def S151_0 (call : CT) (k1 : OA → List Nat → Bool → OA → Nat → Option Nat → H → R) (y0 y1 y2 : AV) (h : H) : R :=
  onPtr y0 (fun p1 => onStr y1 (fun s2 => onBool y2 (fun e3 => bindR (call 58 [(.ptr p1), (.str s2)] h) (fun v4 h5 => onBool v4 (fun e6 => ifB e6 (some ((.slice none 0 (some 0)), h5)) (k1 p1 s2 e3 none 0 (some 0) h5))))))
def C151_2 (N : Nat) (call : CT) (k1 : OA → List Nat → Bool → OA → Nat → Option Nat → H → R) : OA → List Nat → Bool → OA → Nat → Option Nat → H → R := S151_2 call k1
def B151_1 (N : Nat) (call : CT) (ih : OA → List Nat → Bool → OA → Nat → Option Nat → H → R) : OA → List Nat → Bool → OA → Nat → Option Nat → H → R := S151_1 call (C151_2 N call ih)
def I151_1 (N : Nat) (call : CT) (n : Nat) : OA → List Nat → Bool → OA → Nat → Option Nat → H → R := Nat.rec (motive := fun _ => OA → List Nat → Bool → OA → Nat → Option Nat → H → R) (fun _ _ _ _ _ _ _ => none) (fun _ ih => B151_1 N call ih) n
def C151_1 (N : Nat) (call : CT) : OA → List Nat → Bool → OA → Nat → Option Nat → H → R := I151_1 N call N
def S151 (N : Nat) (call : CT) (y0 y1 y2 : AV) (h : H) : R := S151_0 call (C151_1 N call) y0 y1 y2 h
def T151_1 (x_0 : OA) (x_1 : List Nat) (x_2 : Bool) (a_7 : OA) (n_7 : Nat) (c_7 : Option Nat) : LF := [(some (.v (.ptr x_0))), (some (.v (.str x_1))), (some (.v (.bool x_2))), oo, oo, oo, oo, (some (.v (.slice a_7 n_7 c_7))), oo, oo, oo, oo, oo, oo, oo, oo, oo, oo, oo, oo, oo, oo, oo, oo, oo, oo, oo, oo, oo, oo, oo, oo, oo, oo, oo, oo, oo, oo, oo, oo, oo, oo, oo, oo, oo]
def L151_1 (x_0 : OA) (x_1 : List Nat) (x_2 : Bool) (a_7 : OA) (n_7 : Nat) (c_7 : Option Nat) : LL := [oo, oo, oo, oo, oo, oo, oo, oo, oo, oo, oo, oo, oo, oo, oo, oo, oo, oo, oo, oo, oo, oo, oo, oo, oo, oo, oo, oo, oo, oo, oo, oo, oo, oo, oo, oo, oo, oo, oo, oo, oo, oo, oo, oo, oo]
def T151_2 (x_0 : OA) (x_1 : List Nat) (x_2 : Bool) (a_7 : OA) (n_7 : Nat) (c_7 : Option Nat) : LF := [(some (.v (.ptr x_0))), (some (.v (.str x_1))), (some (.v (.bool x_2))), oo, oo, oo, oo, (some (.v (.slice a_7 n_7 c_7))), oo, oo, oo, oo, oo, oo, oo, oo, oo, oo, oo, oo, oo, oo, oo, oo, oo, oo, oo, oo, oo, oo, oo, oo, oo, oo, oo, oo, oo, oo, oo, oo, oo, oo, oo, oo, oo]
def L151_2 (x_0 : OA) (x_1 : List Nat) (x_2 : Bool) (a_7 : OA) (n_7 : Nat) (c_7 : Option Nat) : LL := [oo, oo, oo, oo, oo, oo, oo, oo, oo, oo, oo, oo, oo, oo, oo, oo, oo, oo, oo, oo, oo, oo, oo, oo, oo, oo, oo, oo, oo, oo, oo, oo, oo, oo, oo, oo, oo, oo, oo, oo, oo, oo, oo, oo, oo]
theorem R151_2 (N : Nat) (call : CT) (D1 : K3) (x_0 : OA) (x_1 : List Nat) (x_2 : Bool) (a_7 : OA) (n_7 : Nat) (c_7 : Option Nat) (h : H) : E151_2 N call D1 (T151_2 x_0 x_1 x_2 a_7 n_7 c_7) (L151_2 x_0 x_1 x_2 a_7 n_7 c_7) h = S151_2 call (fun (x_0 : OA) (x_1 : List Nat) (x_2 : Bool) (a_7 : OA) (n_7 : Nat) (c_7 : Option Nat) h => D1 (T151_1 x_0 x_1 x_2 a_7 n_7 c_7) (L151_1 x_0 x_1 x_2 a_7 n_7 c_7) h) x_0 x_1 x_2 a_7 n_7 c_7 h := by kernel_rfl
theorem Z151_2 (N : Nat) (call : CT) (D1 : K3) (x_0 : OA) (x_1 : List Nat) (x_2 : Bool) (a_7 : OA) (n_7 : Nat) (c_7 : Option Nat) (h : H) : E151_2 N call D1 (T151_2 x_0 x_1 x_2 a_7 n_7 c_7) (L151_2 x_0 x_1 x_2 a_7 n_7 c_7) h = C151_2 N call (fun (x_0 : OA) (x_1 : List Nat) (x_2 : Bool) (a_7 : OA) (n_7 : Nat) (c_7 : Option Nat) h => D1 (T151_1 x_0 x_1 x_2 a_7 n_7 c_7) (L151_1 x_0 x_1 x_2 a_7 n_7 c_7) h) x_0 x_1 x_2 a_7 n_7 c_7 h := by
  have r := R151_2 N call D1 x_0 x_1 x_2 a_7 n_7 c_7 h
  have z : S151_2 call (fun (x_0 : OA) (x_1 : List Nat) (x_2 : Bool) (a_7 : OA) (n_7 : Nat) (c_7 : Option Nat) h => D1 (T151_1 x_0 x_1 x_2 a_7 n_7 c_7) (L151_1 x_0 x_1 x_2 a_7 n_7 c_7) h) x_0 x_1 x_2 a_7 n_7 c_7 h = C151_2 N call (fun (x_0 : OA) (x_1 : List Nat) (x_2 : Bool) (a_7 : OA) (n_7 : Nat) (c_7 : Option Nat) h => D1 (T151_1 x_0 x_1 x_2 a_7 n_7 c_7) (L151_1 x_0 x_1 x_2 a_7 n_7 c_7) h) x_0 x_1 x_2 a_7 n_7 c_7 h := by kernel_rfl
  exact r.trans z
theorem R151_1 (N : Nat) (call : CT) (self : K3) (x_0 : OA) (x_1 : List Nat) (x_2 : Bool) (a_7 : OA) (n_7 : Nat) (c_7 : Option Nat) (h : H) : F151_1 N call self (T151_1 x_0 x_1 x_2 a_7 n_7 c_7) (L151_1 x_0 x_1 x_2 a_7 n_7 c_7) h = S151_1 call (fun (x_0 : OA) (x_1 : List Nat) (x_2 : Bool) (a_7 : OA) (n_7 : Nat) (c_7 : Option Nat) h => (E151_2 N call self) (T151_2 x_0 x_1 x_2 a_7 n_7 c_7) (L151_2 x_0 x_1 x_2 a_7 n_7 c_7) h) x_0 x_1 x_2 a_7 n_7 c_7 h := by kernel_rfl
theorem Q151_1 (N : Nat) (call : CT) (n : Nat) : ∀ (x_0 : OA) (x_1 : List Nat) (x_2 : Bool) (a_7 : OA) (n_7 : Nat) (c_7 : Option Nat) (h : H), (iter (F151_1 N call) n) (T151_1 x_0 x_1 x_2 a_7 n_7 c_7) (L151_1 x_0 x_1 x_2 a_7 n_7 c_7) h = I151_1 N call n x_0 x_1 x_2 a_7 n_7 c_7 h := by
  induction n with
  | zero => intros; exact (iter_zero _ _ _ _).trans (by kernel_rfl)
  | succ n ih =>
    intro x_0 x_1 x_2 a_7 n_7 c_7 h
    have e0 : (fun (x_0 : OA) (x_1 : List Nat) (x_2 : Bool) (a_7 : OA) (n_7 : Nat) (c_7 : Option Nat) h => (iter (F151_1 N call) n) (T151_1 x_0 x_1 x_2 a_7 n_7 c_7) (L151_1 x_0 x_1 x_2 a_7 n_7 c_7) h) = (I151_1 N call n) := by funext x_0 x_1 x_2 a_7 n_7 c_7 h; exact ih x_0 x_1 x_2 a_7 n_7 c_7 h
    have e2 : (fun (x_0 : OA) (x_1 : List Nat) (x_2 : Bool) (a_7 : OA) (n_7 : Nat) (c_7 : Option Nat) h => (E151_2 N call (iter (F151_1 N call) n)) (T151_2 x_0 x_1 x_2 a_7 n_7 c_7) (L151_2 x_0 x_1 x_2 a_7 n_7 c_7) h) = (C151_2 N call (I151_1 N call n)) := by
      funext x_0 x_1 x_2 a_7 n_7 c_7 h
      have q := Z151_2 N call (iter (F151_1 N call) n) x_0 x_1 x_2 a_7 n_7 c_7 h
      rw [e0] at q
      exact q
    have r := R151_1 N call (iter (F151_1 N call) n) x_0 x_1 x_2 a_7 n_7 c_7 h
    rw [e2] at r
    have g := iter_succ (F151_1 N call) n (T151_1 x_0 x_1 x_2 a_7 n_7 c_7) (L151_1 x_0 x_1 x_2 a_7 n_7 c_7) h
    have z : S151_1 call (C151_2 N call (I151_1 N call n)) x_0 x_1 x_2 a_7 n_7 c_7 h = I151_1 N call (n + 1) x_0 x_1 x_2 a_7 n_7 c_7 h := by kernel_rfl
    exact g.trans (r.trans z)
theorem Z151_1 (N : Nat) (call : CT) (x_0 : OA) (x_1 : List Nat) (x_2 : Bool) (a_7 : OA) (n_7 : Nat) (c_7 : Option Nat) (h : H) : (E151_1 N call) (T151_1 x_0 x_1 x_2 a_7 n_7 c_7) (L151_1 x_0 x_1 x_2 a_7 n_7 c_7) h = C151_1 N call x_0 x_1 x_2 a_7 n_7 c_7 h := by
  have g : (E151_1 N call) (T151_1 x_0 x_1 x_2 a_7 n_7 c_7) (L151_1 x_0 x_1 x_2 a_7 n_7 c_7) h = iter (F151_1 N call) N (T151_1 x_0 x_1 x_2 a_7 n_7 c_7) (L151_1 x_0 x_1 x_2 a_7 n_7 c_7) h := by kernel_rfl
  have z : I151_1 N call N x_0 x_1 x_2 a_7 n_7 c_7 h = C151_1 N call x_0 x_1 x_2 a_7 n_7 c_7 h := by kernel_rfl
  exact g.trans ((Q151_1 N call N x_0 x_1 x_2 a_7 n_7 c_7 h).trans z)
theorem R151_0 (N : Nat) (call : CT) (y0 y1 y2 : AV) (h : H) : body Tryz.prog N call Tryz.f151 A151.an [y0, y1, y2] h = S151_0 call (fun (x_0 : OA) (x_1 : List Nat) (x_2 : Bool) (a_7 : OA) (n_7 : Nat) (c_7 : Option Nat) h => (E151_1 N call) (T151_1 x_0 x_1 x_2 a_7 n_7 c_7) (L151_1 x_0 x_1 x_2 a_7 n_7 c_7) h) y0 y1 y2 h := by kernel_rfl
theorem Z151 (N : Nat) (call : CT) (y0 y1 y2 : AV) (h : H) : body Tryz.prog N call Tryz.f151 A151.an [y0, y1, y2] h = S151 N call y0 y1 y2 h := by
  have e1 : (fun (x_0 : OA) (x_1 : List Nat) (x_2 : Bool) (a_7 : OA) (n_7 : Nat) (c_7 : Option Nat) h => (E151_1 N call) (T151_1 x_0 x_1 x_2 a_7 n_7 c_7) (L151_1 x_0 x_1 x_2 a_7 n_7 c_7) h) = (C151_1 N call) := by
    funext x_0 x_1 x_2 a_7 n_7 c_7 h
    exact Z151_1 N call x_0 x_1 x_2 a_7 n_7 c_7 h
  have r := R151_0 N call y0 y1 y2 h
  rw [e1] at r
  have z : S151_0 call (C151_1 N call) y0 y1 y2 h = S151 N call y0 y1 y2 h := by kernel_rfl
  exact r.trans z
theorem V151 (N : Nat) (call : CT) (vs : List AV) (h : H) : body Tryz.prog N call Tryz.f151 A151.an vs h = row3 (fun y0 y1 y2 => S151 N call y0 y1 y2 h) vs := wrap3 (by kernel_rfl) (fun y0 y1 y2 => Z151 N call y0 y1 y2 h) vs
end Go.Proofs
end
