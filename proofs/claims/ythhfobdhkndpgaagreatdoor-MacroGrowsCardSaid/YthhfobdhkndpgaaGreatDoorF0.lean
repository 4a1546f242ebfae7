import Derived.KernelRfl
import Derived.Test.YthhfobdhkndpgaaGreatDoorEvA
import Derived.Test.YthhfobdhkndpgaaGreatDoorProg
set_option linter.all false
set_option maxRecDepth 100000
set_option linter.all false
noncomputable section
namespace Go.Proofs
open Go Go.Ev
/- sibyl/sibyllaw8.MacroGrows -/
def A3.a0 : Ann := .items [.op 0]
def A3.a1 : Ann := .items [.op 0, .op 1, .op 2, .split 13, .op 3, .op 4, .op 5]
def A3.a2 : Ann := .items [.op 0]
def A3.a3 : Ann := .leaf
def A3.a4 : Ann := .two A3.a2 A3.a3
def A3.a5 : Ann := .leaf
def A3.a6 : Ann := .two A3.a4 A3.a5
def A3.a7 : Ann := .join [0, 16] [] A3.a1 A3.a6
def A3.a8 : Ann := .items [.op 0]
def A3.a9 : Ann := .items [.op 0]
def A3.a10 : Ann := .items [.op 0, .op 1, .op 2]
def A3.a11 : Ann := .leaf
def A3.a12 : Ann := .leaf
def A3.a13 : Ann := .two A3.a11 A3.a12
def A3.a14 : Ann := .two A3.a10 A3.a13
def A3.a15 : Ann := .drawn [.op 0, .op 1, .op 2, .op 3, .op 6, .op 7, .op 8, .opL 4, .op 5, .opL 9, .op 10, .op 11, .op 12]
def A3.a16 : Ann := .items [.op 0, .op 1]
def A3.a17 : Ann := .items [.op 0]
def A3.a18 : Ann := .leaf
def A3.a19 : Ann := .two A3.a17 A3.a18
def A3.a20 : Ann := .two A3.a16 A3.a19
def A3.a21 : Ann := .items [.op 0, .op 1, .op 2, .op 3, .op 4, .op 5, .op 6, .op 7, .op 8, .op 9, .op 10, .op 11]
def A3.a22 : Ann := .join [0, 3, 4, 5, 6] [] A3.a20 A3.a21
def A3.a23 : Ann := .two A3.a15 A3.a22
def A3.a24 : Ann := .one A3.a23
def A3.a25 : Ann := .items [.op 0, .op 1, .op 2]
def A3.a26 : Ann := .join [0, 3, 4] [] A3.a24 A3.a25
def A3.a27 : Ann := .two A3.a14 A3.a26
def A3.a28 : Ann := .meet [0, 3, 4] [] A3.a27
def A3.a29 : Ann := .one A3.a28
def A3.a30 : Ann := .two A3.a9 A3.a29
def A3.a31 : Ann := .items [.op 0]
def A3.a32 : Ann := .items [.op 0, .op 1]
def A3.a33 : Ann := .items [.op 0, .op 1, .op 2, .opL 3, .op 4, .op 5]
def A3.a34 : Ann := .leaf
def A3.a35 : Ann := .two A3.a33 A3.a34
def A3.a36 : Ann := .two A3.a32 A3.a35
def A3.a37 : Ann := .items [.op 0, .op 1, .op 2, .op 3, .op 4, .op 5, .op 6, .op 7, .op 8, .op 9, .opL 10, .op 11, .op 12]
def A3.a38 : Ann := .items [.op 0, .op 1, .op 2, .op 3, .op 4, .op 5, .op 6]
def A3.a39 : Ann := .items [.op 0, .op 1, .op 2, .op 3, .op 4, .split 73, .op 5, .op 6, .split 75, .op 7, .op 8, .op 9, .op 10, .op 11, .split 80, .op 12, .op 13, .op 14, .split 83, .op 15, .op 16, .op 17, .op 18, .op 19, .op 20, .op 21, .op 22, .op 23, .op 24, .op 25, .split 94, .op 26, .op 27, .op 28]
def A3.a40 : Ann := .leaf
def A3.a41 : Ann := .two A3.a39 A3.a40
def A3.a42 : Ann := .two A3.a38 A3.a41
def A3.a43 : Ann := .two A3.a37 A3.a42
def A3.a44 : Ann := .join [0, 3, 7] [] A3.a36 A3.a43
def A3.a45 : Ann := .two A3.a31 A3.a44
def A3.a46 : Ann := .two A3.a30 A3.a45
def A3.a47 : Ann := .two A3.a8 A3.a46
def A3.a48 : Ann := .join [0] [] A3.a7 A3.a47
def A3.an : Ann := .two A3.a0 A3.a48
def E3_1 (N : Nat) (call : CT) : K3 :=
  (codeK Tryz.prog N call (c2 (c2 (bodyOf Tryz.f3))) A3.a47 (resK Tryz.prog Tryz.f3.results.toList) (fun _ _ _ _ => none) (resK Tryz.prog Tryz.f3.results.toList))
def E3_2 (N : Nat) (call : CT) : K3 :=
  (codeK Tryz.prog N call (c2 (c1 (c2 (bodyOf Tryz.f3)))) A3.a6 (fun T L h => (E3_1 N call) (keepT [0] T) (keepL [] L) h) (fun _ _ _ _ => none) (resK Tryz.prog Tryz.f3.results.toList))
def F3_3 (N : Nat) (call : CT) (self : K3) : K3 :=
  (codeK Tryz.prog N call (c1 (c1 (c2 (c1 (c2 (c2 (c2 (bodyOf Tryz.f3)))))))) A3.a27 (fun T L h => self (keepT [0, 3, 4] T) (keepL [] L) h) (fun i T L h => match Nat.beq i 0 with | true => (codeK Tryz.prog N call (c2 (c2 (c2 (c2 (bodyOf Tryz.f3))))) A3.a45 (resK Tryz.prog Tryz.f3.results.toList) (fun _ _ _ _ => none) (resK Tryz.prog Tryz.f3.results.toList)) T L h | false => (fun _ _ _ _ => none) i T L h) (resK Tryz.prog Tryz.f3.results.toList))
def E3_3 (N : Nat) (call : CT) : K3 := iter (F3_3 N call) N
def E3_4 (N : Nat) (call : CT) (D3 : K3) : K3 :=
  (codeK Tryz.prog N call (c2 (c2 (c1 (c1 (c2 (c1 (c2 (c2 (c2 (bodyOf Tryz.f3)))))))))) A3.a25 (fun T L h => D3 (keepT [0, 3, 4] T) (keepL [] L) h) (fun i T L h => match Nat.beq i 0 with | true => (codeK Tryz.prog N call (c2 (c2 (c2 (c2 (bodyOf Tryz.f3))))) A3.a45 (resK Tryz.prog Tryz.f3.results.toList) (fun _ _ _ _ => none) (resK Tryz.prog Tryz.f3.results.toList)) T L h | false => (fun _ _ _ _ => none) i T L h) (resK Tryz.prog Tryz.f3.results.toList))
def E3_5 (N : Nat) (call : CT) (D3 : K3) : K3 :=
  (codeK Tryz.prog N call (c2 (c2 (c1 (c1 (c2 (c1 (c1 (c2 (c1 (c2 (c2 (c2 (bodyOf Tryz.f3))))))))))))) A3.a21 (fun T L h => (E3_4 N call D3) (keepT [0, 3, 4] T) (keepL [] L) h) (fun i T L h => match Nat.beq i 1 with | true => (fun T L h => (E3_4 N call D3) (keepT [0, 3, 4] T) (keepL [] L) h) T L h | false => (fun i T L h => match Nat.beq i 0 with | true => (codeK Tryz.prog N call (c2 (c2 (c2 (c2 (bodyOf Tryz.f3))))) A3.a45 (resK Tryz.prog Tryz.f3.results.toList) (fun _ _ _ _ => none) (resK Tryz.prog Tryz.f3.results.toList)) T L h | false => (fun _ _ _ _ => none) i T L h) i T L h) (resK Tryz.prog Tryz.f3.results.toList))
def E3_6 (N : Nat) (call : CT) : K3 :=
  (codeK Tryz.prog N call (c2 (c2 (c2 (c2 (c2 (c2 (bodyOf Tryz.f3))))))) A3.a43 (resK Tryz.prog Tryz.f3.results.toList) (fun _ _ _ _ => none) (resK Tryz.prog Tryz.f3.results.toList))
def S3_1 (call : CT) (k3 : Int → List Nat → Int → H → R) (x_0 : Int) (h : H) : R :=
  k3 x_0 [112, 114, 101, 100, 32, 112, 48, 40, 41, 32, 61, 32, 116, 114, 117, 101, 59] (Int.ofNat 1) h
def S3_2 (call : CT) (k1 : Int → H → R) (x_0 : Int) (x_16 : Bool) (h : H) : R :=
  ifB x_16 (some ((.bool true), h)) (k1 x_0 h)
def S3_3 (call : CT) (k5 : Int → List Nat → Int → List Nat → List Nat → H → R) (k6 : Int → List Nat → List Nat → H → R) (x_0 : Int) (x_3 : List Nat) (x_4 : Int) (h : H) : R :=
  ifB (leI x_4 x_0) (onOpt (bytesOfCells [(.int .u8 (wrapF .u8 (wrapF .i64 (Int.sub (wrapF .i64 (Int.add (Int.ofNat 97) x_4)) (Int.ofNat 1)))))]) (fun s1 => onOpt (bytesOfCells [(.int .u8 (wrapF .u8 (wrapF .i64 (Int.add (Int.ofNat 97) x_4))))]) (fun s2 => ifB (eqI x_4 (Int.ofNat 1)) (k5 x_0 x_3 x_4 [48] s2 h) (k5 x_0 x_3 x_4 s1 s2 h)))) (ifB (ltI (Int.ofNat 0) x_0) (onOpt (bytesOfCells [(.int .u8 (wrapF .u8 (wrapF .i64 (Int.add (Int.ofNat 97) x_0))))]) (fun s3 => k6 x_0 x_3 s3 h)) (k6 x_0 x_3 [48] h))
def S3_4 (call : CT) (k3 : Int → List Nat → Int → H → R) (x_0 : Int) (x_3 : List Nat) (x_4 : Int) (h : H) : R :=
  k3 x_0 x_3 (wrapF .i64 (Int.add x_4 (Int.ofNat 1))) h
def S3_5 (call : CT) (k4 : Int → List Nat → Int → H → R) (x_0 : Int) (x_3 : List Nat) (x_4 : Int) (x_5 x_6 : List Nat) (h : H) : R :=
  onOpt (abin Tryz.prog 9 .add (.str x_3) (.str [112, 114, 101, 100, 32, 112])) (fun v1 => onStr v1 (fun s2 => onOpt (abin Tryz.prog 9 .add (.str s2) (.str x_6)) (fun v3 => onStr v3 (fun s4 => onOpt (abin Tryz.prog 9 .add (.str s4) (.str [40, 41, 32, 61, 32, 112])) (fun v5 => onStr v5 (fun s6 => onOpt (abin Tryz.prog 9 .add (.str s6) (.str x_5)) (fun v7 => onStr v7 (fun s8 => onOpt (abin Tryz.prog 9 .add (.str s8) (.str [40, 41, 32, 38, 32, 112])) (fun v9 => onStr v9 (fun s10 => onOpt (abin Tryz.prog 9 .add (.str s10) (.str x_5)) (fun v11 => onStr v11 (fun s12 => onOpt (abin Tryz.prog 9 .add (.str s12) (.str [40, 41, 59])) (fun v13 => onStr v13 (fun s14 => k4 x_0 s14 x_4 h))))))))))))))
def S3_6 (call : CT) (x_0 : Int) (x_3 x_7 : List Nat) (h : H) : R :=
  onOpt (abin Tryz.prog 9 .add (.str x_3) (.str [112])) (fun v1 => onStr v1 (fun s2 => onOpt (abin Tryz.prog 9 .add (.str s2) (.str x_7)) (fun v3 => onStr v3 (fun s4 => onOpt (abin Tryz.prog 9 .add (.str s4) (.str [40, 41, 59])) (fun v5 => onStr v5 (fun s6 => bindR (call 6 [(.str s6)] h) (fun v7 h8 => onAgR v7 (fun l16 => row7 (fun x9 x10 x11 x12 x13 x14 x15 => bindR (call 5 [(.agg [x9, x10, x11, x12, x13, x14, x15])] h8) (fun v17 h18 => onTuple v17 0 (fun v19 => onAgR v19 (fun l25 => row5 (fun x20 x21 x22 x23 x24 => onTuple v17 1 (fun v26 => onInt .i64 v26 (fun i27 => onOpt (abin Tryz.prog 3 .shl (.int .i64 (Int.ofNat 1)) (.int .u64 (wrapF .u64 (wrapF .i64 (Int.add x_0 (Int.ofNat 1)))))) (fun v28 => onInt .i64 v28 (fun i29 => ifB ((eqI i27 (Int.ofNat 0)) == (leI (wrapF .i64 (Int.sub i29 (Int.ofNat 1))) (Int.ofNat 2000))) (ifB (leI (wrapF .i64 (Int.sub i29 (Int.ofNat 1))) (Int.ofNat 2000)) (ifB (!(leI (wrapF .i64 (Int.sub i29 (Int.ofNat 1))) (Int.ofNat 2000))) (bindR (call 8 [] h18) (fun v30 h31 => onBool v30 (fun e32 => some ((.bool e32), h31)))) (bindR (call 7 [(.agg [x20, x21, x22, x23, x24])] h18) (fun v33 h34 => onInt .i64 v33 (fun i35 => onOpt (abin Tryz.prog 3 .shl (.int .i64 (Int.ofNat 1)) (.int .u64 (wrapF .u64 (wrapF .i64 (Int.add x_0 (Int.ofNat 1)))))) (fun v36 => onInt .i64 v36 (fun i37 => ifB (eqI i35 (wrapF .i64 (Int.sub i37 (Int.ofNat 1)))) (bindR (call 8 [] h34) (fun v38 h39 => onBool v38 (fun e40 => some ((.bool e40), h39)))) (some ((.bool false), h34)))))))) (ifB (eqI i27 (Int.ofNat 8)) (ifB (!(leI (wrapF .i64 (Int.sub i29 (Int.ofNat 1))) (Int.ofNat 2000))) (bindR (call 8 [] h18) (fun v41 h42 => onBool v41 (fun e43 => some ((.bool e43), h42)))) (bindR (call 7 [(.agg [x20, x21, x22, x23, x24])] h18) (fun v44 h45 => onInt .i64 v44 (fun i46 => onOpt (abin Tryz.prog 3 .shl (.int .i64 (Int.ofNat 1)) (.int .u64 (wrapF .u64 (wrapF .i64 (Int.add x_0 (Int.ofNat 1)))))) (fun v47 => onInt .i64 v47 (fun i48 => ifB (eqI i46 (wrapF .i64 (Int.sub i48 (Int.ofNat 1)))) (bindR (call 8 [] h45) (fun v49 h50 => onBool v49 (fun e51 => some ((.bool e51), h50)))) (some ((.bool false), h45)))))))) (some ((.bool false), h18)))) (some ((.bool false), h18))))))) l25)))) l16))))))))
def S3_0 (call : CT) (k2 : Int → Bool → H → R) (y0 : AV) (h : H) : R :=
  onInt .i64 y0 (fun i1 => ifB (ltI i1 (Int.ofNat 0)) (k2 i1 true h) (k2 i1 (ltI (Int.ofNat 14) i1) h))
def C3_4 (N : Nat) (call : CT) (k3 : Int → List Nat → Int → H → R) : Int → List Nat → Int → H → R := S3_4 call k3
def C3_5 (N : Nat) (call : CT) (k3 : Int → List Nat → Int → H → R) : Int → List Nat → Int → List Nat → List Nat → H → R := S3_5 call (C3_4 N call k3)
def C3_6 (N : Nat) (call : CT) : Int → List Nat → List Nat → H → R := S3_6 call
def B3_3 (N : Nat) (call : CT) (ih : Int → List Nat → Int → H → R) : Int → List Nat → Int → H → R := S3_3 call (C3_5 N call ih) (C3_6 N call)
def I3_3 (N : Nat) (call : CT) (n : Nat) : Int → List Nat → Int → H → R := Nat.rec (motive := fun _ => Int → List Nat → Int → H → R) (fun _ _ _ _ => none) (fun _ ih => B3_3 N call ih) n
def C3_3 (N : Nat) (call : CT) : Int → List Nat → Int → H → R := I3_3 N call N
def C3_1 (N : Nat) (call : CT) : Int → H → R := S3_1 call (C3_3 N call)
def C3_2 (N : Nat) (call : CT) : Int → Bool → H → R := S3_2 call (C3_1 N call)
def S3 (N : Nat) (call : CT) (y0 : AV) (h : H) : R := S3_0 call (C3_2 N call) y0 h
def T3_1 (x_0 : Int) : LF := [(some (.v (.int .i64 x_0))), oo, oo, oo, oo, oo, oo, oo, oo, oo, oo, oo, oo, oo, oo, oo, oo, oo, oo, oo, oo, oo, oo, oo, oo, oo, oo, oo, oo, oo, oo, oo, oo, oo, oo, oo, oo, oo, oo, oo, oo, oo, oo, oo, oo, oo, oo, oo, oo, oo, oo, oo, oo, oo, oo, oo, oo, oo, oo, oo, oo, oo, oo, oo, oo, oo, oo, oo, oo, oo, oo, oo, oo, oo, oo, oo, oo, oo, oo, oo, oo, oo, oo, oo, oo, oo, oo, oo, oo, oo, oo, oo, oo, oo, oo, oo, oo]
def L3_1 (x_0 : Int) : LL := [oo, oo, oo, oo, oo, oo, oo, oo, oo, oo, oo, oo, oo, oo, oo, oo, oo, oo, oo, oo, oo, oo, oo, oo, oo, oo, oo, oo, oo, oo, oo, oo, oo, oo, oo, oo, oo, oo, oo, oo, oo, oo, oo, oo, oo, oo, oo, oo, oo, oo, oo, oo, oo, oo, oo, oo, oo, oo, oo, oo, oo, oo, oo, oo, oo, oo, oo, oo, oo, oo, oo, oo, oo, oo, oo, oo, oo, oo, oo, oo, oo, oo, oo, oo, oo, oo, oo, oo, oo, oo, oo, oo, oo, oo, oo, oo, oo]
def T3_2 (x_0 : Int) (x_16 : Bool) : LF := [(some (.v (.int .i64 x_0))), oo, oo, oo, oo, oo, oo, oo, oo, oo, oo, oo, oo, oo, oo, oo, (some (.v (.bool x_16))), oo, oo, oo, oo, oo, oo, oo, oo, oo, oo, oo, oo, oo, oo, oo, oo, oo, oo, oo, oo, oo, oo, oo, oo, oo, oo, oo, oo, oo, oo, oo, oo, oo, oo, oo, oo, oo, oo, oo, oo, oo, oo, oo, oo, oo, oo, oo, oo, oo, oo, oo, oo, oo, oo, oo, oo, oo, oo, oo, oo, oo, oo, oo, oo, oo, oo, oo, oo, oo, oo, oo, oo, oo, oo, oo, oo, oo, oo, oo, oo]
def L3_2 (x_0 : Int) (x_16 : Bool) : LL := [oo, oo, oo, oo, oo, oo, oo, oo, oo, oo, oo, oo, oo, oo, oo, oo, oo, oo, oo, oo, oo, oo, oo, oo, oo, oo, oo, oo, oo, oo, oo, oo, oo, oo, oo, oo, oo, oo, oo, oo, oo, oo, oo, oo, oo, oo, oo, oo, oo, oo, oo, oo, oo, oo, oo, oo, oo, oo, oo, oo, oo, oo, oo, oo, oo, oo, oo, oo, oo, oo, oo, oo, oo, oo, oo, oo, oo, oo, oo, oo, oo, oo, oo, oo, oo, oo, oo, oo, oo, oo, oo, oo, oo, oo, oo, oo, oo]
def T3_3 (x_0 : Int) (x_3 : List Nat) (x_4 : Int) : LF := [(some (.v (.int .i64 x_0))), none, none, (some (.v (.str x_3))), (some (.v (.int .i64 x_4))), oo, oo, oo, oo, oo, oo, oo, oo, oo, oo, oo, oo, oo, oo, oo, oo, oo, oo, oo, oo, oo, oo, oo, oo, oo, oo, oo, oo, oo, oo, oo, oo, oo, oo, oo, oo, oo, oo, oo, oo, oo, oo, oo, oo, oo, oo, oo, oo, oo, oo, oo, oo, oo, oo, oo, oo, oo, oo, oo, oo, oo, oo, oo, oo, oo, oo, oo, oo, oo, oo, oo, oo, oo, oo, oo, oo, oo, oo, oo, oo, oo, oo, oo, oo, oo, oo, oo, oo, oo, oo, oo, oo]
def L3_3 (x_0 : Int) (x_3 : List Nat) (x_4 : Int) : LL := [oo, oo, oo, oo, oo, oo, oo, oo, oo, oo, oo, oo, oo, oo, oo, oo, oo, oo, oo, oo, oo, oo, oo, oo, oo, oo, oo, oo, oo, oo, oo, oo, oo, oo, oo, oo, oo, oo, oo, oo, oo, oo, oo, oo, oo, oo, oo, oo, oo, oo, oo, oo, oo, oo, oo, oo, oo, oo, oo, oo, oo, oo, oo, oo, oo, oo, oo, oo, oo, oo, oo, oo, oo, oo, oo, oo, oo, oo, oo, oo, oo, oo, oo, oo, oo, oo, oo, oo, oo, oo, oo, oo, oo, oo, oo, oo, oo]
def T3_4 (x_0 : Int) (x_3 : List Nat) (x_4 : Int) : LF := [(some (.v (.int .i64 x_0))), none, none, (some (.v (.str x_3))), (some (.v (.int .i64 x_4))), oo, oo, oo, oo, oo, oo, oo, oo, oo, oo, oo, oo, oo, oo, oo, oo, oo, oo, oo, oo, oo, oo, oo, oo, oo, oo, oo, oo, oo, oo, oo, oo, oo, oo, oo, oo, oo, oo, oo, oo, oo, oo, oo, oo, oo, oo, oo, oo, oo, oo, oo, oo, oo, oo, oo, oo, oo, oo, oo, oo, oo, oo, oo, oo, oo, oo, oo, oo, oo, oo, oo, oo, oo, oo, oo, oo, oo, oo, oo, oo, oo, oo, oo, oo, oo, oo, oo, oo, oo, oo, oo, oo]
def L3_4 (x_0 : Int) (x_3 : List Nat) (x_4 : Int) : LL := [oo, oo, oo, oo, oo, oo, oo, oo, oo, oo, oo, oo, oo, oo, oo, oo, oo, oo, oo, oo, oo, oo, oo, oo, oo, oo, oo, oo, oo, oo, oo, oo, oo, oo, oo, oo, oo, oo, oo, oo, oo, oo, oo, oo, oo, oo, oo, oo, oo, oo, oo, oo, oo, oo, oo, oo, oo, oo, oo, oo, oo, oo, oo, oo, oo, oo, oo, oo, oo, oo, oo, oo, oo, oo, oo, oo, oo, oo, oo, oo, oo, oo, oo, oo, oo, oo, oo, oo, oo, oo, oo, oo, oo, oo, oo, oo, oo]
def T3_5 (x_0 : Int) (x_3 : List Nat) (x_4 : Int) (x_5 x_6 : List Nat) : LF := [(some (.v (.int .i64 x_0))), none, none, (some (.v (.str x_3))), (some (.v (.int .i64 x_4))), (some (.v (.str x_5))), (some (.v (.str x_6))), oo, oo, oo, oo, oo, oo, oo, oo, oo, oo, oo, oo, oo, oo, oo, oo, oo, oo, oo, oo, oo, oo, oo, oo, oo, oo, oo, oo, oo, oo, oo, oo, oo, oo, oo, oo, oo, oo, oo, oo, oo, oo, oo, oo, oo, oo, oo, oo, oo, oo, oo, oo, oo, oo, oo, oo, oo, oo, oo, oo, oo, oo, oo, oo, oo, oo, oo, oo, oo, oo, oo, oo, oo, oo, oo, oo, oo, oo, oo, oo, oo, oo, oo, oo, oo, oo, oo, oo, oo, oo]
def L3_5 (x_0 : Int) (x_3 : List Nat) (x_4 : Int) (x_5 x_6 : List Nat) : LL := [oo, oo, oo, oo, oo, oo, oo, oo, oo, oo, oo, oo, oo, oo, oo, oo, oo, oo, oo, oo, oo, oo, oo, oo, oo, oo, oo, oo, oo, oo, oo, oo, oo, oo, oo, oo, oo, oo, oo, oo, oo, oo, oo, oo, oo, oo, oo, oo, oo, oo, oo, oo, oo, oo, oo, oo, oo, oo, oo, oo, oo, oo, oo, oo, oo, oo, oo, oo, oo, oo, oo, oo, oo, oo, oo, oo, oo, oo, oo, oo, oo, oo, oo, oo, oo, oo, oo, oo, oo, oo, oo, oo, oo, oo, oo, oo, oo]
def T3_6 (x_0 : Int) (x_3 x_7 : List Nat) : LF := [(some (.v (.int .i64 x_0))), none, none, (some (.v (.str x_3))), oo, oo, oo, (some (.v (.str x_7))), oo, oo, oo, oo, oo, oo, oo, oo, oo, oo, oo, oo, oo, oo, oo, oo, oo, oo, oo, oo, oo, oo, oo, oo, oo, oo, oo, oo, oo, oo, oo, oo, oo, oo, oo, oo, oo, oo, oo, oo, oo, oo, oo, oo, oo, oo, oo, oo, oo, oo, oo, oo, oo, oo, oo, oo, oo, oo, oo, oo, oo, oo, oo, oo, oo, oo, oo, oo, oo, oo, oo, oo, oo, oo, oo, oo, oo, oo, oo, oo, oo, oo, oo, oo, oo, oo, oo, oo, oo]
def L3_6 (x_0 : Int) (x_3 x_7 : List Nat) : LL := [oo, oo, oo, oo, oo, oo, oo, oo, oo, oo, oo, oo, oo, oo, oo, oo, oo, oo, oo, oo, oo, oo, oo, oo, oo, oo, oo, oo, oo, oo, oo, oo, oo, oo, oo, oo, oo, oo, oo, oo, oo, oo, oo, oo, oo, oo, oo, oo, oo, oo, oo, oo, oo, oo, oo, oo, oo, oo, oo, oo, oo, oo, oo, oo, oo, oo, oo, oo, oo, oo, oo, oo, oo, oo, oo, oo, oo, oo, oo, oo, oo, oo, oo, oo, oo, oo, oo, oo, oo, oo, oo, oo, oo, oo, oo, oo, oo]
theorem W3_4 (N : Nat) (call : CT) (D3 : K3) : E3_4 N call D3 = (codeK Tryz.prog N call (c2 (c2 (c1 (c1 (c2 (c1 (c2 (c2 (c2 (bodyOf Tryz.f3)))))))))) A3.a25 (fun T L h => D3 (keepT [0, 3, 4] T) (keepL [] L) h) (fun i T L h => match Nat.beq i 0 with | true => (codeK Tryz.prog N call (c1 (c2 (c2 (c2 (c2 (bodyOf Tryz.f3)))))) A3.a31 (codeK Tryz.prog N call (c1 (c1 (c2 (c2 (c2 (c2 (c2 (bodyOf Tryz.f3)))))))) A3.a32 (codeK Tryz.prog N call (c2 (c1 (c2 (c2 (c2 (c2 (c2 (bodyOf Tryz.f3)))))))) A3.a35 (fun T L h => (E3_6 N call) (keepT [0, 3, 7] T) (keepL [] L) h) (fun _ _ _ _ => none) (resK Tryz.prog Tryz.f3.results.toList)) (fun _ _ _ _ => none) (resK Tryz.prog Tryz.f3.results.toList)) (fun _ _ _ _ => none) (resK Tryz.prog Tryz.f3.results.toList)) T L h | false => (fun _ _ _ _ => none) i T L h) (resK Tryz.prog Tryz.f3.results.toList)) := by kernel_rfl
theorem P3_4 (N : Nat) (call : CT) (D3 : K3) (J6 : K3) (x_0 : Int) (x_3 : List Nat) (x_4 : Int) (h : H) : (codeK Tryz.prog N call (c2 (c2 (c1 (c1 (c2 (c1 (c2 (c2 (c2 (bodyOf Tryz.f3)))))))))) A3.a25 (fun T L h => D3 (keepT [0, 3, 4] T) (keepL [] L) h) (fun i T L h => match Nat.beq i 0 with | true => (codeK Tryz.prog N call (c1 (c2 (c2 (c2 (c2 (bodyOf Tryz.f3)))))) A3.a31 (codeK Tryz.prog N call (c1 (c1 (c2 (c2 (c2 (c2 (c2 (bodyOf Tryz.f3)))))))) A3.a32 (codeK Tryz.prog N call (c2 (c1 (c2 (c2 (c2 (c2 (c2 (bodyOf Tryz.f3)))))))) A3.a35 (fun T L h => J6 (keepT [0, 3, 7] T) (keepL [] L) h) (fun _ _ _ _ => none) (resK Tryz.prog Tryz.f3.results.toList)) (fun _ _ _ _ => none) (resK Tryz.prog Tryz.f3.results.toList)) (fun _ _ _ _ => none) (resK Tryz.prog Tryz.f3.results.toList)) T L h | false => (fun _ _ _ _ => none) i T L h) (resK Tryz.prog Tryz.f3.results.toList)) (T3_4 x_0 x_3 x_4) (L3_4 x_0 x_3 x_4) h = S3_4 call (fun (x_0 : Int) (x_3 : List Nat) (x_4 : Int) h => D3 (T3_3 x_0 x_3 x_4) (L3_3 x_0 x_3 x_4) h) x_0 x_3 x_4 h := by kernel_rfl
theorem R3_4 (N : Nat) (call : CT) (D3 : K3) (x_0 : Int) (x_3 : List Nat) (x_4 : Int) (h : H) : E3_4 N call D3 (T3_4 x_0 x_3 x_4) (L3_4 x_0 x_3 x_4) h = S3_4 call (fun (x_0 : Int) (x_3 : List Nat) (x_4 : Int) h => D3 (T3_3 x_0 x_3 x_4) (L3_3 x_0 x_3 x_4) h) x_0 x_3 x_4 h := (congrFun (congrFun (congrFun (W3_4 N call D3) _) _) _).trans (P3_4 N call D3 (E3_6 N call) x_0 x_3 x_4 h)
theorem Z3_4 (N : Nat) (call : CT) (D3 : K3) (x_0 : Int) (x_3 : List Nat) (x_4 : Int) (h : H) : E3_4 N call D3 (T3_4 x_0 x_3 x_4) (L3_4 x_0 x_3 x_4) h = C3_4 N call (fun (x_0 : Int) (x_3 : List Nat) (x_4 : Int) h => D3 (T3_3 x_0 x_3 x_4) (L3_3 x_0 x_3 x_4) h) x_0 x_3 x_4 h := by
  have r := R3_4 N call D3 x_0 x_3 x_4 h
  have z : S3_4 call (fun (x_0 : Int) (x_3 : List Nat) (x_4 : Int) h => D3 (T3_3 x_0 x_3 x_4) (L3_3 x_0 x_3 x_4) h) x_0 x_3 x_4 h = C3_4 N call (fun (x_0 : Int) (x_3 : List Nat) (x_4 : Int) h => D3 (T3_3 x_0 x_3 x_4) (L3_3 x_0 x_3 x_4) h) x_0 x_3 x_4 h := by kernel_rfl
  exact r.trans z
theorem W3_5 (N : Nat) (call : CT) (D3 : K3) : E3_5 N call D3 = (codeK Tryz.prog N call (c2 (c2 (c1 (c1 (c2 (c1 (c1 (c2 (c1 (c2 (c2 (c2 (bodyOf Tryz.f3))))))))))))) A3.a21 (fun T L h => (E3_4 N call D3) (keepT [0, 3, 4] T) (keepL [] L) h) (fun i T L h => match Nat.beq i 1 with | true => (fun T L h => (E3_4 N call D3) (keepT [0, 3, 4] T) (keepL [] L) h) T L h | false => (fun i T L h => match Nat.beq i 0 with | true => (codeK Tryz.prog N call (c1 (c2 (c2 (c2 (c2 (bodyOf Tryz.f3)))))) A3.a31 (codeK Tryz.prog N call (c1 (c1 (c2 (c2 (c2 (c2 (c2 (bodyOf Tryz.f3)))))))) A3.a32 (codeK Tryz.prog N call (c2 (c1 (c2 (c2 (c2 (c2 (c2 (bodyOf Tryz.f3)))))))) A3.a35 (fun T L h => (E3_6 N call) (keepT [0, 3, 7] T) (keepL [] L) h) (fun _ _ _ _ => none) (resK Tryz.prog Tryz.f3.results.toList)) (fun _ _ _ _ => none) (resK Tryz.prog Tryz.f3.results.toList)) (fun _ _ _ _ => none) (resK Tryz.prog Tryz.f3.results.toList)) T L h | false => (fun _ _ _ _ => none) i T L h) i T L h) (resK Tryz.prog Tryz.f3.results.toList)) := by kernel_rfl
theorem P3_5 (N : Nat) (call : CT) (D3 : K3) (J4 : K3) (J6 : K3) (x_0 : Int) (x_3 : List Nat) (x_4 : Int) (x_5 x_6 : List Nat) (h : H) : (codeK Tryz.prog N call (c2 (c2 (c1 (c1 (c2 (c1 (c1 (c2 (c1 (c2 (c2 (c2 (bodyOf Tryz.f3))))))))))))) A3.a21 (fun T L h => J4 (keepT [0, 3, 4] T) (keepL [] L) h) (fun i T L h => match Nat.beq i 1 with | true => (fun T L h => J4 (keepT [0, 3, 4] T) (keepL [] L) h) T L h | false => (fun i T L h => match Nat.beq i 0 with | true => (codeK Tryz.prog N call (c1 (c2 (c2 (c2 (c2 (bodyOf Tryz.f3)))))) A3.a31 (codeK Tryz.prog N call (c1 (c1 (c2 (c2 (c2 (c2 (c2 (bodyOf Tryz.f3)))))))) A3.a32 (codeK Tryz.prog N call (c2 (c1 (c2 (c2 (c2 (c2 (c2 (bodyOf Tryz.f3)))))))) A3.a35 (fun T L h => J6 (keepT [0, 3, 7] T) (keepL [] L) h) (fun _ _ _ _ => none) (resK Tryz.prog Tryz.f3.results.toList)) (fun _ _ _ _ => none) (resK Tryz.prog Tryz.f3.results.toList)) (fun _ _ _ _ => none) (resK Tryz.prog Tryz.f3.results.toList)) T L h | false => (fun _ _ _ _ => none) i T L h) i T L h) (resK Tryz.prog Tryz.f3.results.toList)) (T3_5 x_0 x_3 x_4 x_5 x_6) (L3_5 x_0 x_3 x_4 x_5 x_6) h = S3_5 call (fun (x_0 : Int) (x_3 : List Nat) (x_4 : Int) h => J4 (T3_4 x_0 x_3 x_4) (L3_4 x_0 x_3 x_4) h) x_0 x_3 x_4 x_5 x_6 h := by kernel_rfl
theorem R3_5 (N : Nat) (call : CT) (D3 : K3) (x_0 : Int) (x_3 : List Nat) (x_4 : Int) (x_5 x_6 : List Nat) (h : H) : E3_5 N call D3 (T3_5 x_0 x_3 x_4 x_5 x_6) (L3_5 x_0 x_3 x_4 x_5 x_6) h = S3_5 call (fun (x_0 : Int) (x_3 : List Nat) (x_4 : Int) h => (E3_4 N call D3) (T3_4 x_0 x_3 x_4) (L3_4 x_0 x_3 x_4) h) x_0 x_3 x_4 x_5 x_6 h := (congrFun (congrFun (congrFun (W3_5 N call D3) _) _) _).trans (P3_5 N call D3 (E3_4 N call D3) (E3_6 N call) x_0 x_3 x_4 x_5 x_6 h)
theorem Z3_5 (N : Nat) (call : CT) (D3 : K3) (x_0 : Int) (x_3 : List Nat) (x_4 : Int) (x_5 x_6 : List Nat) (h : H) : E3_5 N call D3 (T3_5 x_0 x_3 x_4 x_5 x_6) (L3_5 x_0 x_3 x_4 x_5 x_6) h = C3_5 N call (fun (x_0 : Int) (x_3 : List Nat) (x_4 : Int) h => D3 (T3_3 x_0 x_3 x_4) (L3_3 x_0 x_3 x_4) h) x_0 x_3 x_4 x_5 x_6 h := by
  have e4 : (fun (x_0 : Int) (x_3 : List Nat) (x_4 : Int) h => (E3_4 N call D3) (T3_4 x_0 x_3 x_4) (L3_4 x_0 x_3 x_4) h) = (C3_4 N call (fun (x_0 : Int) (x_3 : List Nat) (x_4 : Int) h => D3 (T3_3 x_0 x_3 x_4) (L3_3 x_0 x_3 x_4) h)) := by
    funext x_0 x_3 x_4 h
    exact Z3_4 N call D3 x_0 x_3 x_4 h
  have r := R3_5 N call D3 x_0 x_3 x_4 x_5 x_6 h
  rw [e4] at r
  have z : S3_5 call (C3_4 N call (fun (x_0 : Int) (x_3 : List Nat) (x_4 : Int) h => D3 (T3_3 x_0 x_3 x_4) (L3_3 x_0 x_3 x_4) h)) x_0 x_3 x_4 x_5 x_6 h = C3_5 N call (fun (x_0 : Int) (x_3 : List Nat) (x_4 : Int) h => D3 (T3_3 x_0 x_3 x_4) (L3_3 x_0 x_3 x_4) h) x_0 x_3 x_4 x_5 x_6 h := by kernel_rfl
  exact r.trans z
theorem W3_6 (N : Nat) (call : CT) : E3_6 N call = (codeK Tryz.prog N call (c1 (c2 (c2 (c2 (c2 (c2 (c2 (bodyOf Tryz.f3)))))))) A3.a37 (codeK Tryz.prog N call (c1 (c2 (c2 (c2 (c2 (c2 (c2 (c2 (bodyOf Tryz.f3))))))))) A3.a38 (codeK Tryz.prog N call (c1 (c2 (c2 (c2 (c2 (c2 (c2 (c2 (c2 (bodyOf Tryz.f3)))))))))) A3.a39 (codeK Tryz.prog N call (c2 (c2 (c2 (c2 (c2 (c2 (c2 (c2 (c2 (bodyOf Tryz.f3)))))))))) A3.a40 (resK Tryz.prog Tryz.f3.results.toList) (fun _ _ _ _ => none) (resK Tryz.prog Tryz.f3.results.toList)) (fun _ _ _ _ => none) (resK Tryz.prog Tryz.f3.results.toList)) (fun _ _ _ _ => none) (resK Tryz.prog Tryz.f3.results.toList)) (fun _ _ _ _ => none) (resK Tryz.prog Tryz.f3.results.toList)) := by kernel_rfl
theorem P3_6 (N : Nat) (call : CT) (x_0 : Int) (x_3 x_7 : List Nat) (h : H) : (codeK Tryz.prog N call (c1 (c2 (c2 (c2 (c2 (c2 (c2 (bodyOf Tryz.f3)))))))) A3.a37 (codeK Tryz.prog N call (c1 (c2 (c2 (c2 (c2 (c2 (c2 (c2 (bodyOf Tryz.f3))))))))) A3.a38 (codeK Tryz.prog N call (c1 (c2 (c2 (c2 (c2 (c2 (c2 (c2 (c2 (bodyOf Tryz.f3)))))))))) A3.a39 (codeK Tryz.prog N call (c2 (c2 (c2 (c2 (c2 (c2 (c2 (c2 (c2 (bodyOf Tryz.f3)))))))))) A3.a40 (resK Tryz.prog Tryz.f3.results.toList) (fun _ _ _ _ => none) (resK Tryz.prog Tryz.f3.results.toList)) (fun _ _ _ _ => none) (resK Tryz.prog Tryz.f3.results.toList)) (fun _ _ _ _ => none) (resK Tryz.prog Tryz.f3.results.toList)) (fun _ _ _ _ => none) (resK Tryz.prog Tryz.f3.results.toList)) (T3_6 x_0 x_3 x_7) (L3_6 x_0 x_3 x_7) h = S3_6 call x_0 x_3 x_7 h := by kernel_rfl
theorem R3_6 (N : Nat) (call : CT) (x_0 : Int) (x_3 x_7 : List Nat) (h : H) : E3_6 N call (T3_6 x_0 x_3 x_7) (L3_6 x_0 x_3 x_7) h = S3_6 call x_0 x_3 x_7 h := (congrFun (congrFun (congrFun (W3_6 N call) _) _) _).trans (P3_6 N call x_0 x_3 x_7 h)
theorem Z3_6 (N : Nat) (call : CT) (x_0 : Int) (x_3 x_7 : List Nat) (h : H) : E3_6 N call (T3_6 x_0 x_3 x_7) (L3_6 x_0 x_3 x_7) h = C3_6 N call x_0 x_3 x_7 h := by
  have r := R3_6 N call x_0 x_3 x_7 h
  have z : S3_6 call x_0 x_3 x_7 h = C3_6 N call x_0 x_3 x_7 h := by kernel_rfl
  exact r.trans z
theorem W3_3 (N : Nat) (call : CT) (self : K3) : F3_3 N call self = (codeK Tryz.prog N call (c1 (c1 (c1 (c1 (c2 (c1 (c2 (c2 (c2 (bodyOf Tryz.f3)))))))))) A3.a10 (codeK Tryz.prog N call (c2 (c1 (c1 (c1 (c2 (c1 (c2 (c2 (c2 (bodyOf Tryz.f3)))))))))) A3.a13 (codeK Tryz.prog N call (c1 (c1 (c1 (c2 (c1 (c1 (c2 (c1 (c2 (c2 (c2 (bodyOf Tryz.f3)))))))))))) A3.a15 (codeK Tryz.prog N call (c1 (c1 (c2 (c1 (c1 (c2 (c1 (c1 (c2 (c1 (c2 (c2 (c2 (bodyOf Tryz.f3)))))))))))))) A3.a16 (codeK Tryz.prog N call (c2 (c1 (c2 (c1 (c1 (c2 (c1 (c1 (c2 (c1 (c2 (c2 (c2 (bodyOf Tryz.f3)))))))))))))) A3.a19 (fun T L h => (E3_5 N call self) (keepT [0, 3, 4, 5, 6] T) (keepL [] L) h) (fun i T L h => match Nat.beq i 1 with | true => (fun T L h => (E3_4 N call self) (keepT [0, 3, 4] T) (keepL [] L) h) T L h | false => (fun i T L h => match Nat.beq i 0 with | true => (codeK Tryz.prog N call (c1 (c2 (c2 (c2 (c2 (bodyOf Tryz.f3)))))) A3.a31 (codeK Tryz.prog N call (c1 (c1 (c2 (c2 (c2 (c2 (c2 (bodyOf Tryz.f3)))))))) A3.a32 (codeK Tryz.prog N call (c2 (c1 (c2 (c2 (c2 (c2 (c2 (bodyOf Tryz.f3)))))))) A3.a35 (fun T L h => (E3_6 N call) (keepT [0, 3, 7] T) (keepL [] L) h) (fun _ _ _ _ => none) (resK Tryz.prog Tryz.f3.results.toList)) (fun _ _ _ _ => none) (resK Tryz.prog Tryz.f3.results.toList)) (fun _ _ _ _ => none) (resK Tryz.prog Tryz.f3.results.toList)) T L h | false => (fun _ _ _ _ => none) i T L h) i T L h) (resK Tryz.prog Tryz.f3.results.toList)) (fun i T L h => match Nat.beq i 1 with | true => (fun T L h => (E3_4 N call self) (keepT [0, 3, 4] T) (keepL [] L) h) T L h | false => (fun i T L h => match Nat.beq i 0 with | true => (codeK Tryz.prog N call (c1 (c2 (c2 (c2 (c2 (bodyOf Tryz.f3)))))) A3.a31 (codeK Tryz.prog N call (c1 (c1 (c2 (c2 (c2 (c2 (c2 (bodyOf Tryz.f3)))))))) A3.a32 (codeK Tryz.prog N call (c2 (c1 (c2 (c2 (c2 (c2 (c2 (bodyOf Tryz.f3)))))))) A3.a35 (fun T L h => (E3_6 N call) (keepT [0, 3, 7] T) (keepL [] L) h) (fun _ _ _ _ => none) (resK Tryz.prog Tryz.f3.results.toList)) (fun _ _ _ _ => none) (resK Tryz.prog Tryz.f3.results.toList)) (fun _ _ _ _ => none) (resK Tryz.prog Tryz.f3.results.toList)) T L h | false => (fun _ _ _ _ => none) i T L h) i T L h) (resK Tryz.prog Tryz.f3.results.toList)) (fun i T L h => match Nat.beq i 1 with | true => (fun T L h => (E3_4 N call self) (keepT [0, 3, 4] T) (keepL [] L) h) T L h | false => (fun i T L h => match Nat.beq i 0 with | true => (codeK Tryz.prog N call (c1 (c2 (c2 (c2 (c2 (bodyOf Tryz.f3)))))) A3.a31 (codeK Tryz.prog N call (c1 (c1 (c2 (c2 (c2 (c2 (c2 (bodyOf Tryz.f3)))))))) A3.a32 (codeK Tryz.prog N call (c2 (c1 (c2 (c2 (c2 (c2 (c2 (bodyOf Tryz.f3)))))))) A3.a35 (fun T L h => (E3_6 N call) (keepT [0, 3, 7] T) (keepL [] L) h) (fun _ _ _ _ => none) (resK Tryz.prog Tryz.f3.results.toList)) (fun _ _ _ _ => none) (resK Tryz.prog Tryz.f3.results.toList)) (fun _ _ _ _ => none) (resK Tryz.prog Tryz.f3.results.toList)) T L h | false => (fun _ _ _ _ => none) i T L h) i T L h) (resK Tryz.prog Tryz.f3.results.toList)) (fun i T L h => match Nat.beq i 0 with | true => (codeK Tryz.prog N call (c1 (c2 (c2 (c2 (c2 (bodyOf Tryz.f3)))))) A3.a31 (codeK Tryz.prog N call (c1 (c1 (c2 (c2 (c2 (c2 (c2 (bodyOf Tryz.f3)))))))) A3.a32 (codeK Tryz.prog N call (c2 (c1 (c2 (c2 (c2 (c2 (c2 (bodyOf Tryz.f3)))))))) A3.a35 (fun T L h => (E3_6 N call) (keepT [0, 3, 7] T) (keepL [] L) h) (fun _ _ _ _ => none) (resK Tryz.prog Tryz.f3.results.toList)) (fun _ _ _ _ => none) (resK Tryz.prog Tryz.f3.results.toList)) (fun _ _ _ _ => none) (resK Tryz.prog Tryz.f3.results.toList)) T L h | false => (fun _ _ _ _ => none) i T L h) (resK Tryz.prog Tryz.f3.results.toList)) (fun i T L h => match Nat.beq i 0 with | true => (codeK Tryz.prog N call (c1 (c2 (c2 (c2 (c2 (bodyOf Tryz.f3)))))) A3.a31 (codeK Tryz.prog N call (c1 (c1 (c2 (c2 (c2 (c2 (c2 (bodyOf Tryz.f3)))))))) A3.a32 (codeK Tryz.prog N call (c2 (c1 (c2 (c2 (c2 (c2 (c2 (bodyOf Tryz.f3)))))))) A3.a35 (fun T L h => (E3_6 N call) (keepT [0, 3, 7] T) (keepL [] L) h) (fun _ _ _ _ => none) (resK Tryz.prog Tryz.f3.results.toList)) (fun _ _ _ _ => none) (resK Tryz.prog Tryz.f3.results.toList)) (fun _ _ _ _ => none) (resK Tryz.prog Tryz.f3.results.toList)) T L h | false => (fun _ _ _ _ => none) i T L h) (resK Tryz.prog Tryz.f3.results.toList)) := by kernel_rfl
theorem P3_3 (N : Nat) (call : CT) (self : K3) (J4 : K3) (J5 : K3) (J6 : K3) (x_0 : Int) (x_3 : List Nat) (x_4 : Int) (h : H) : (codeK Tryz.prog N call (c1 (c1 (c1 (c1 (c2 (c1 (c2 (c2 (c2 (bodyOf Tryz.f3)))))))))) A3.a10 (codeK Tryz.prog N call (c2 (c1 (c1 (c1 (c2 (c1 (c2 (c2 (c2 (bodyOf Tryz.f3)))))))))) A3.a13 (codeK Tryz.prog N call (c1 (c1 (c1 (c2 (c1 (c1 (c2 (c1 (c2 (c2 (c2 (bodyOf Tryz.f3)))))))))))) A3.a15 (codeK Tryz.prog N call (c1 (c1 (c2 (c1 (c1 (c2 (c1 (c1 (c2 (c1 (c2 (c2 (c2 (bodyOf Tryz.f3)))))))))))))) A3.a16 (codeK Tryz.prog N call (c2 (c1 (c2 (c1 (c1 (c2 (c1 (c1 (c2 (c1 (c2 (c2 (c2 (bodyOf Tryz.f3)))))))))))))) A3.a19 (fun T L h => J5 (keepT [0, 3, 4, 5, 6] T) (keepL [] L) h) (fun i T L h => match Nat.beq i 1 with | true => (fun T L h => J4 (keepT [0, 3, 4] T) (keepL [] L) h) T L h | false => (fun i T L h => match Nat.beq i 0 with | true => (codeK Tryz.prog N call (c1 (c2 (c2 (c2 (c2 (bodyOf Tryz.f3)))))) A3.a31 (codeK Tryz.prog N call (c1 (c1 (c2 (c2 (c2 (c2 (c2 (bodyOf Tryz.f3)))))))) A3.a32 (codeK Tryz.prog N call (c2 (c1 (c2 (c2 (c2 (c2 (c2 (bodyOf Tryz.f3)))))))) A3.a35 (fun T L h => J6 (keepT [0, 3, 7] T) (keepL [] L) h) (fun _ _ _ _ => none) (resK Tryz.prog Tryz.f3.results.toList)) (fun _ _ _ _ => none) (resK Tryz.prog Tryz.f3.results.toList)) (fun _ _ _ _ => none) (resK Tryz.prog Tryz.f3.results.toList)) T L h | false => (fun _ _ _ _ => none) i T L h) i T L h) (resK Tryz.prog Tryz.f3.results.toList)) (fun i T L h => match Nat.beq i 1 with | true => (fun T L h => J4 (keepT [0, 3, 4] T) (keepL [] L) h) T L h | false => (fun i T L h => match Nat.beq i 0 with | true => (codeK Tryz.prog N call (c1 (c2 (c2 (c2 (c2 (bodyOf Tryz.f3)))))) A3.a31 (codeK Tryz.prog N call (c1 (c1 (c2 (c2 (c2 (c2 (c2 (bodyOf Tryz.f3)))))))) A3.a32 (codeK Tryz.prog N call (c2 (c1 (c2 (c2 (c2 (c2 (c2 (bodyOf Tryz.f3)))))))) A3.a35 (fun T L h => J6 (keepT [0, 3, 7] T) (keepL [] L) h) (fun _ _ _ _ => none) (resK Tryz.prog Tryz.f3.results.toList)) (fun _ _ _ _ => none) (resK Tryz.prog Tryz.f3.results.toList)) (fun _ _ _ _ => none) (resK Tryz.prog Tryz.f3.results.toList)) T L h | false => (fun _ _ _ _ => none) i T L h) i T L h) (resK Tryz.prog Tryz.f3.results.toList)) (fun i T L h => match Nat.beq i 1 with | true => (fun T L h => J4 (keepT [0, 3, 4] T) (keepL [] L) h) T L h | false => (fun i T L h => match Nat.beq i 0 with | true => (codeK Tryz.prog N call (c1 (c2 (c2 (c2 (c2 (bodyOf Tryz.f3)))))) A3.a31 (codeK Tryz.prog N call (c1 (c1 (c2 (c2 (c2 (c2 (c2 (bodyOf Tryz.f3)))))))) A3.a32 (codeK Tryz.prog N call (c2 (c1 (c2 (c2 (c2 (c2 (c2 (bodyOf Tryz.f3)))))))) A3.a35 (fun T L h => J6 (keepT [0, 3, 7] T) (keepL [] L) h) (fun _ _ _ _ => none) (resK Tryz.prog Tryz.f3.results.toList)) (fun _ _ _ _ => none) (resK Tryz.prog Tryz.f3.results.toList)) (fun _ _ _ _ => none) (resK Tryz.prog Tryz.f3.results.toList)) T L h | false => (fun _ _ _ _ => none) i T L h) i T L h) (resK Tryz.prog Tryz.f3.results.toList)) (fun i T L h => match Nat.beq i 0 with | true => (codeK Tryz.prog N call (c1 (c2 (c2 (c2 (c2 (bodyOf Tryz.f3)))))) A3.a31 (codeK Tryz.prog N call (c1 (c1 (c2 (c2 (c2 (c2 (c2 (bodyOf Tryz.f3)))))))) A3.a32 (codeK Tryz.prog N call (c2 (c1 (c2 (c2 (c2 (c2 (c2 (bodyOf Tryz.f3)))))))) A3.a35 (fun T L h => J6 (keepT [0, 3, 7] T) (keepL [] L) h) (fun _ _ _ _ => none) (resK Tryz.prog Tryz.f3.results.toList)) (fun _ _ _ _ => none) (resK Tryz.prog Tryz.f3.results.toList)) (fun _ _ _ _ => none) (resK Tryz.prog Tryz.f3.results.toList)) T L h | false => (fun _ _ _ _ => none) i T L h) (resK Tryz.prog Tryz.f3.results.toList)) (fun i T L h => match Nat.beq i 0 with | true => (codeK Tryz.prog N call (c1 (c2 (c2 (c2 (c2 (bodyOf Tryz.f3)))))) A3.a31 (codeK Tryz.prog N call (c1 (c1 (c2 (c2 (c2 (c2 (c2 (bodyOf Tryz.f3)))))))) A3.a32 (codeK Tryz.prog N call (c2 (c1 (c2 (c2 (c2 (c2 (c2 (bodyOf Tryz.f3)))))))) A3.a35 (fun T L h => J6 (keepT [0, 3, 7] T) (keepL [] L) h) (fun _ _ _ _ => none) (resK Tryz.prog Tryz.f3.results.toList)) (fun _ _ _ _ => none) (resK Tryz.prog Tryz.f3.results.toList)) (fun _ _ _ _ => none) (resK Tryz.prog Tryz.f3.results.toList)) T L h | false => (fun _ _ _ _ => none) i T L h) (resK Tryz.prog Tryz.f3.results.toList)) (T3_3 x_0 x_3 x_4) (L3_3 x_0 x_3 x_4) h = S3_3 call (fun (x_0 : Int) (x_3 : List Nat) (x_4 : Int) (x_5 x_6 : List Nat) h => J5 (T3_5 x_0 x_3 x_4 x_5 x_6) (L3_5 x_0 x_3 x_4 x_5 x_6) h) (fun (x_0 : Int) (x_3 x_7 : List Nat) h => J6 (T3_6 x_0 x_3 x_7) (L3_6 x_0 x_3 x_7) h) x_0 x_3 x_4 h := by kernel_rfl
theorem R3_3 (N : Nat) (call : CT) (self : K3) (x_0 : Int) (x_3 : List Nat) (x_4 : Int) (h : H) : F3_3 N call self (T3_3 x_0 x_3 x_4) (L3_3 x_0 x_3 x_4) h = S3_3 call (fun (x_0 : Int) (x_3 : List Nat) (x_4 : Int) (x_5 x_6 : List Nat) h => (E3_5 N call self) (T3_5 x_0 x_3 x_4 x_5 x_6) (L3_5 x_0 x_3 x_4 x_5 x_6) h) (fun (x_0 : Int) (x_3 x_7 : List Nat) h => (E3_6 N call) (T3_6 x_0 x_3 x_7) (L3_6 x_0 x_3 x_7) h) x_0 x_3 x_4 h := (congrFun (congrFun (congrFun (W3_3 N call self) _) _) _).trans (P3_3 N call self (E3_4 N call self) (E3_5 N call self) (E3_6 N call) x_0 x_3 x_4 h)
theorem Q3_3 (N : Nat) (call : CT) (n : Nat) : ∀ (x_0 : Int) (x_3 : List Nat) (x_4 : Int) (h : H), (iter (F3_3 N call) n) (T3_3 x_0 x_3 x_4) (L3_3 x_0 x_3 x_4) h = I3_3 N call n x_0 x_3 x_4 h := by
  induction n with
  | zero => intros; exact (iter_zero _ _ _ _).trans (by kernel_rfl)
  | succ n ih =>
    intro x_0 x_3 x_4 h
    have e0 : (fun (x_0 : Int) (x_3 : List Nat) (x_4 : Int) h => (iter (F3_3 N call) n) (T3_3 x_0 x_3 x_4) (L3_3 x_0 x_3 x_4) h) = (I3_3 N call n) := by funext x_0 x_3 x_4 h; exact ih x_0 x_3 x_4 h
    have e5 : (fun (x_0 : Int) (x_3 : List Nat) (x_4 : Int) (x_5 x_6 : List Nat) h => (E3_5 N call (iter (F3_3 N call) n)) (T3_5 x_0 x_3 x_4 x_5 x_6) (L3_5 x_0 x_3 x_4 x_5 x_6) h) = (C3_5 N call (I3_3 N call n)) := by
      funext x_0 x_3 x_4 x_5 x_6 h
      have q := Z3_5 N call (iter (F3_3 N call) n) x_0 x_3 x_4 x_5 x_6 h
      rw [e0] at q
      exact q
    have e6 : (fun (x_0 : Int) (x_3 x_7 : List Nat) h => (E3_6 N call) (T3_6 x_0 x_3 x_7) (L3_6 x_0 x_3 x_7) h) = (C3_6 N call) := by
      funext x_0 x_3 x_7 h
      have q := Z3_6 N call x_0 x_3 x_7 h
      exact q
    have r := R3_3 N call (iter (F3_3 N call) n) x_0 x_3 x_4 h
    rw [e5, e6] at r
    have g := iter_succ (F3_3 N call) n (T3_3 x_0 x_3 x_4) (L3_3 x_0 x_3 x_4) h
    have z : S3_3 call (C3_5 N call (I3_3 N call n)) (C3_6 N call) x_0 x_3 x_4 h = I3_3 N call (n + 1) x_0 x_3 x_4 h := by kernel_rfl
    exact g.trans (r.trans z)
theorem Z3_3 (N : Nat) (call : CT) (x_0 : Int) (x_3 : List Nat) (x_4 : Int) (h : H) : (E3_3 N call) (T3_3 x_0 x_3 x_4) (L3_3 x_0 x_3 x_4) h = C3_3 N call x_0 x_3 x_4 h := by
  have g : (E3_3 N call) (T3_3 x_0 x_3 x_4) (L3_3 x_0 x_3 x_4) h = iter (F3_3 N call) N (T3_3 x_0 x_3 x_4) (L3_3 x_0 x_3 x_4) h := by kernel_rfl
  have z : I3_3 N call N x_0 x_3 x_4 h = C3_3 N call x_0 x_3 x_4 h := by kernel_rfl
  exact g.trans ((Q3_3 N call N x_0 x_3 x_4 h).trans z)
theorem W3_1 (N : Nat) (call : CT) : E3_1 N call = (codeK Tryz.prog N call (c1 (c2 (c2 (bodyOf Tryz.f3)))) A3.a8 (codeK Tryz.prog N call (c1 (c1 (c2 (c2 (c2 (bodyOf Tryz.f3)))))) A3.a9 (fun T L h => (E3_3 N call) (keepT [0, 3, 4] T) (keepL [] L) h) (fun _ _ _ _ => none) (resK Tryz.prog Tryz.f3.results.toList)) (fun _ _ _ _ => none) (resK Tryz.prog Tryz.f3.results.toList)) := by kernel_rfl
theorem P3_1 (N : Nat) (call : CT) (J3 : K3) (x_0 : Int) (h : H) : (codeK Tryz.prog N call (c1 (c2 (c2 (bodyOf Tryz.f3)))) A3.a8 (codeK Tryz.prog N call (c1 (c1 (c2 (c2 (c2 (bodyOf Tryz.f3)))))) A3.a9 (fun T L h => J3 (keepT [0, 3, 4] T) (keepL [] L) h) (fun _ _ _ _ => none) (resK Tryz.prog Tryz.f3.results.toList)) (fun _ _ _ _ => none) (resK Tryz.prog Tryz.f3.results.toList)) (T3_1 x_0) (L3_1 x_0) h = S3_1 call (fun (x_0 : Int) (x_3 : List Nat) (x_4 : Int) h => J3 (T3_3 x_0 x_3 x_4) (L3_3 x_0 x_3 x_4) h) x_0 h := by kernel_rfl
theorem R3_1 (N : Nat) (call : CT) (x_0 : Int) (h : H) : E3_1 N call (T3_1 x_0) (L3_1 x_0) h = S3_1 call (fun (x_0 : Int) (x_3 : List Nat) (x_4 : Int) h => (E3_3 N call) (T3_3 x_0 x_3 x_4) (L3_3 x_0 x_3 x_4) h) x_0 h := (congrFun (congrFun (congrFun (W3_1 N call) _) _) _).trans (P3_1 N call (E3_3 N call) x_0 h)
theorem Z3_1 (N : Nat) (call : CT) (x_0 : Int) (h : H) : E3_1 N call (T3_1 x_0) (L3_1 x_0) h = C3_1 N call x_0 h := by
  have e3 : (fun (x_0 : Int) (x_3 : List Nat) (x_4 : Int) h => (E3_3 N call) (T3_3 x_0 x_3 x_4) (L3_3 x_0 x_3 x_4) h) = (C3_3 N call) := by
    funext x_0 x_3 x_4 h
    exact Z3_3 N call x_0 x_3 x_4 h
  have r := R3_1 N call x_0 h
  rw [e3] at r
  have z : S3_1 call (C3_3 N call) x_0 h = C3_1 N call x_0 h := by kernel_rfl
  exact r.trans z
theorem W3_2 (N : Nat) (call : CT) : E3_2 N call = (codeK Tryz.prog N call (c2 (c1 (c2 (bodyOf Tryz.f3)))) A3.a6 (fun T L h => (E3_1 N call) (keepT [0] T) (keepL [] L) h) (fun _ _ _ _ => none) (resK Tryz.prog Tryz.f3.results.toList)) := by kernel_rfl
theorem P3_2 (N : Nat) (call : CT) (J1 : K3) (x_0 : Int) (x_16 : Bool) (h : H) : (codeK Tryz.prog N call (c2 (c1 (c2 (bodyOf Tryz.f3)))) A3.a6 (fun T L h => J1 (keepT [0] T) (keepL [] L) h) (fun _ _ _ _ => none) (resK Tryz.prog Tryz.f3.results.toList)) (T3_2 x_0 x_16) (L3_2 x_0 x_16) h = S3_2 call (fun (x_0 : Int) h => J1 (T3_1 x_0) (L3_1 x_0) h) x_0 x_16 h := by kernel_rfl
theorem R3_2 (N : Nat) (call : CT) (x_0 : Int) (x_16 : Bool) (h : H) : E3_2 N call (T3_2 x_0 x_16) (L3_2 x_0 x_16) h = S3_2 call (fun (x_0 : Int) h => (E3_1 N call) (T3_1 x_0) (L3_1 x_0) h) x_0 x_16 h := (congrFun (congrFun (congrFun (W3_2 N call) _) _) _).trans (P3_2 N call (E3_1 N call) x_0 x_16 h)
theorem Z3_2 (N : Nat) (call : CT) (x_0 : Int) (x_16 : Bool) (h : H) : E3_2 N call (T3_2 x_0 x_16) (L3_2 x_0 x_16) h = C3_2 N call x_0 x_16 h := by
  have e1 : (fun (x_0 : Int) h => (E3_1 N call) (T3_1 x_0) (L3_1 x_0) h) = (C3_1 N call) := by
    funext x_0 h
    exact Z3_1 N call x_0 h
  have r := R3_2 N call x_0 x_16 h
  rw [e1] at r
  have z : S3_2 call (C3_1 N call) x_0 x_16 h = C3_2 N call x_0 x_16 h := by kernel_rfl
  exact r.trans z
theorem W3_0 (N : Nat) (call : CT) : codeK Tryz.prog N call (bodyOf Tryz.f3) A3.an (resK Tryz.prog Tryz.f3.results.toList) (fun _ _ _ _ => none) (resK Tryz.prog Tryz.f3.results.toList) = (codeK Tryz.prog N call (c1 (bodyOf Tryz.f3)) A3.a0 (codeK Tryz.prog N call (c1 (c1 (c2 (bodyOf Tryz.f3)))) A3.a1 (fun T L h => (E3_2 N call) (keepT [0, 16] T) (keepL [] L) h) (fun _ _ _ _ => none) (resK Tryz.prog Tryz.f3.results.toList)) (fun _ _ _ _ => none) (resK Tryz.prog Tryz.f3.results.toList)) := by kernel_rfl
theorem P3_0 (N : Nat) (call : CT) (J2 : K3) (y0 : AV) (h : H) : bodyK Tryz.prog Tryz.f3 (codeK Tryz.prog N call (c1 (bodyOf Tryz.f3)) A3.a0 (codeK Tryz.prog N call (c1 (c1 (c2 (bodyOf Tryz.f3)))) A3.a1 (fun T L h => J2 (keepT [0, 16] T) (keepL [] L) h) (fun _ _ _ _ => none) (resK Tryz.prog Tryz.f3.results.toList)) (fun _ _ _ _ => none) (resK Tryz.prog Tryz.f3.results.toList)) [y0] h = S3_0 call (fun (x_0 : Int) (x_16 : Bool) h => J2 (T3_2 x_0 x_16) (L3_2 x_0 x_16) h) y0 h := by kernel_rfl
theorem R3_0 (N : Nat) (call : CT) (y0 : AV) (h : H) : body Tryz.prog N call Tryz.f3 A3.an [y0] h = S3_0 call (fun (x_0 : Int) (x_16 : Bool) h => (E3_2 N call) (T3_2 x_0 x_16) (L3_2 x_0 x_16) h) y0 h := (body_eq Tryz.prog N call Tryz.f3 A3.an [y0] h (W3_0 N call)).trans (P3_0 N call (E3_2 N call) y0 h)
theorem Z3 (N : Nat) (call : CT) (y0 : AV) (h : H) : body Tryz.prog N call Tryz.f3 A3.an [y0] h = S3 N call y0 h := by
  have e2 : (fun (x_0 : Int) (x_16 : Bool) h => (E3_2 N call) (T3_2 x_0 x_16) (L3_2 x_0 x_16) h) = (C3_2 N call) := by
    funext x_0 x_16 h
    exact Z3_2 N call x_0 x_16 h
  have r := R3_0 N call y0 h
  rw [e2] at r
  have z : S3_0 call (C3_2 N call) y0 h = S3 N call y0 h := by kernel_rfl
  exact r.trans z
theorem V3 (N : Nat) (call : CT) (vs : List AV) (h : H) : body Tryz.prog N call Tryz.f3 A3.an vs h = row1 (fun y0 => S3 N call y0 h) vs := wrap1 (by kernel_rfl) (fun y0 => Z3 N call y0 h) vs
/- sibyl/macro.Expand -/
def A5.a0 : Ann := .items [.opL 0, .opL 1, .op 2]
def A5.a1 : Ann := .items [.op 0, .op 1, .op 2, .op 3, .op 4, .op 5, .op 6]
def A5.a2 : Ann := .items [.op 0, .op 1]
def A5.a3 : Ann := .items [.op 0, .op 1, .op 2, .op 3]
def A5.a4 : Ann := .leaf
def A5.a5 : Ann := .two A5.a3 A5.a4
def A5.a6 : Ann := .leaf
def A5.a7 : Ann := .two A5.a5 A5.a6
def A5.a8 : Ann := .two A5.a2 A5.a7
def A5.a9 : Ann := .two A5.a1 A5.a8
def A5.a10 : Ann := .items [.op 0, .op 1, .op 2]
def A5.a11 : Ann := .items [.op 0, .op 1, .op 2, .op 3]
def A5.a12 : Ann := .items [.op 0]
def A5.a13 : Ann := .leaf
def A5.a14 : Ann := .leaf
def A5.a15 : Ann := .two A5.a13 A5.a14
def A5.a16 : Ann := .items [.op 0, .op 1, .opL 2, .op 3]
def A5.a17 : Ann := .items [.op 0, .op 1, .op 2, .op 3, .op 4, .op 5, .op 6, .opL 7, .op 8, .op 9]
def A5.a18 : Ann := .items [.op 0, .op 1]
def A5.a19 : Ann := .items [.op 0, .op 1, .op 2]
def A5.a20 : Ann := .leaf
def A5.a21 : Ann := .two A5.a19 A5.a20
def A5.a22 : Ann := .leaf
def A5.a23 : Ann := .two A5.a21 A5.a22
def A5.a24 : Ann := .two A5.a18 A5.a23
def A5.a25 : Ann := .items [.op 0, .op 1, .op 2]
def A5.a26 : Ann := .drawn [.op 1, .op 2, .op 3, .op 4, .op 5, .opL 6, .op 7, .op 0, .op 8, .op 9, .op 10]
def A5.a27 : Ann := .two A5.a25 A5.a26
def A5.a28 : Ann := .two A5.a24 A5.a27
def A5.a29 : Ann := .two A5.a17 A5.a28
def A5.a30 : Ann := .two A5.a16 A5.a29
def A5.a31 : Ann := .one A5.a30
def A5.a32 : Ann := .items [.op 0, .op 1]
def A5.a33 : Ann := .two A5.a31 A5.a32
def A5.a34 : Ann := .two A5.a15 A5.a33
def A5.a35 : Ann := .two A5.a12 A5.a34
def A5.a36 : Ann := .meet [1, 2, 6, 24, 25, 26] [1, 2] A5.a35
def A5.a37 : Ann := .one A5.a36
def A5.a38 : Ann := .two A5.a11 A5.a37
def A5.a39 : Ann := .items [.op 0, .op 1, .op 2, .op 3, .op 4, .op 5, .op 6, .op 7, .op 8]
def A5.a40 : Ann := .items [.op 0, .op 1]
def A5.a41 : Ann := .items [.op 0, .op 1, .op 2]
def A5.a42 : Ann := .leaf
def A5.a43 : Ann := .two A5.a41 A5.a42
def A5.a44 : Ann := .leaf
def A5.a45 : Ann := .two A5.a43 A5.a44
def A5.a46 : Ann := .two A5.a40 A5.a45
def A5.a47 : Ann := .items [.op 0, .op 1, .op 2]
def A5.a48 : Ann := .leaf
def A5.a49 : Ann := .two A5.a47 A5.a48
def A5.a50 : Ann := .two A5.a46 A5.a49
def A5.a51 : Ann := .two A5.a39 A5.a50
def A5.a52 : Ann := .two A5.a38 A5.a51
def A5.a53 : Ann := .two A5.a10 A5.a52
def A5.a54 : Ann := .two A5.a9 A5.a53
def A5.an : Ann := .two A5.a0 A5.a54
def F5_1 (N : Nat) (call : CT) (self : K3) : K3 :=
  (codeK Tryz.prog N call (c1 (c1 (c2 (c1 (c2 (c2 (c2 (bodyOf Tryz.f5)))))))) A5.a35 (fun T L h => self (keepT [1, 2, 6, 24, 25, 26] T) (keepL [1, 2] L) h) (fun i T L h => match Nat.beq i 0 with | true => (codeK Tryz.prog N call (c2 (c2 (c2 (c2 (bodyOf Tryz.f5))))) A5.a51 (resK Tryz.prog Tryz.f5.results.toList) (fun _ _ _ _ => none) (resK Tryz.prog Tryz.f5.results.toList)) T L h | false => (fun _ _ _ _ => none) i T L h) (resK Tryz.prog Tryz.f5.results.toList))
def E5_1 (N : Nat) (call : CT) : K3 := iter (F5_1 N call) N
def S5_1 (call : CT) (k1 : OA → OA → Nat → Option Nat → Int → Int → AV → AV → AV → AV → AV → AV → AV → AV → AV → AV → AV → AV → H → R) (x_6 a_24 : OA) (n_24 : Nat) (c_24 : Option Nat) (x_25 x_26 : Int) (l1_0 l1_1 : AV) (l1_2 l1_3 : AV) (l1_4 l1_5 : AV) (l1_6 l2_0 : AV) (l2_1 l2_2 : AV) (l2_3 l2_4 : AV) (h : H) : R :=
  ifB (ltI x_26 x_25) (idxAddr 8 a_24 n_24 x_26 (fun b1 o2 => ldK h b1 o2 8 (fun l3 => row8 (fun x4 x5 x6 x7 x8 x9 x10 x11 => bindR (call 13 [(.ptr x_6), (.agg [x6, x7, x8, x9, x10])] h) (fun v12 h13 => onTuple v12 0 (fun v14 => onAgR v14 (fun l20 => row5 (fun x15 x16 x17 x18 x19 => onTuple v12 1 (fun v21 => onBool v21 (fun e22 => ifB (!e22) (some (.tuple [(.agg [(.str []), (.str []), (.int .i64 (Int.ofNat 0)), (.int .i64 (Int.ofNat 0)), (.slice none 0 (some 0))]), (.int .i64 (Int.ofNat 8))], h13)) (onSome x_6 (fun b23 o24 => ldK h13 b23 (o24 + 0) 1 (one (fun v25 => onSlice v25 (fun a26 n27 c28 => appL h13 8 a26 n27 c28 1 [x4, x5, x15, x16, x17, x18, x19, x11] (fun a29 n30 c31 h32 => onSome x_6 (fun b33 o34 => stK h32 b33 (o34 + 0) [(.slice a29 n30 c31)] (fun h35 => k1 x_6 a_24 n_24 c_24 x_25 (wrapF .i64 (Int.add x_26 (Int.ofNat 1))) l1_0 l1_1 l1_2 l1_3 l1_4 l1_5 l1_6 l2_0 l2_1 l2_2 l2_3 l2_4 h35))))))))))) l20)))) l3))) (bindR (call 13 [(.ptr x_6), (.agg [l1_2, l1_3, l1_4, l1_5, l1_6])] h) (fun v36 h37 => onTuple v36 0 (fun v38 => onAgR v38 (fun l44 => row5 (fun x39 x40 x41 x42 x43 => onTuple v36 1 (fun v45 => onBool v45 (fun e46 => ifB (!e46) (some (.tuple [(.agg [(.str []), (.str []), (.int .i64 (Int.ofNat 0)), (.int .i64 (Int.ofNat 0)), (.slice none 0 (some 0))]), (.int .i64 (Int.ofNat 8))], h37)) (some (.tuple [(.agg [x39, x40, x41, x42, x43]), (.int .i64 (Int.ofNat 0))], h37))))) l44))))
def S5_0 (call : CT) (k1 : OA → OA → Nat → Option Nat → Int → Int → AV → AV → AV → AV → AV → AV → AV → AV → AV → AV → AV → AV → H → R) (y0 : AV) (h : H) : R :=
  onAgR y0 (fun l8 => row7 (fun x1 x2 x3 x4 x5 x6 x7 => bindR (call 12 [(.agg [x1, x2, x3, x4, x5, x6, x7])] h) (fun v9 h10 => onTuple v9 0 (fun v11 => onInt .i64 v11 (fun i12 => onTuple v9 1 (fun v13 => onInt .i64 v13 (fun i14 => ifB (!eqI i14 (Int.ofNat 0)) (some (.tuple [(.agg [(.str []), (.str []), (.int .i64 (Int.ofNat 0)), (.int .i64 (Int.ofNat 0)), (.slice none 0 (some 0))]), (.int .i64 i14)], h10)) (newK h10 [(.slice none 0 (some 0)), (.int .i64 (Int.ofNat 0))] (fun b15 h16 => onSlice x2 (fun a17 n18 c19 => k1 (some (b15, 0)) a17 n18 c19 (Int.ofNat n18) (Int.ofNat 0) x1 x2 x3 x4 x5 x6 x7 (.str []) (.str []) (.int .i64 (Int.ofNat 0)) (.int .i64 (Int.ofNat 0)) (.slice none 0 (some 0)) h16))))))))) l8)
def B5_1 (N : Nat) (call : CT) (ih : OA → OA → Nat → Option Nat → Int → Int → AV → AV → AV → AV → AV → AV → AV → AV → AV → AV → AV → AV → H → R) : OA → OA → Nat → Option Nat → Int → Int → AV → AV → AV → AV → AV → AV → AV → AV → AV → AV → AV → AV → H → R := S5_1 call ih
def I5_1 (N : Nat) (call : CT) (n : Nat) : OA → OA → Nat → Option Nat → Int → Int → AV → AV → AV → AV → AV → AV → AV → AV → AV → AV → AV → AV → H → R := Nat.rec (motive := fun _ => OA → OA → Nat → Option Nat → Int → Int → AV → AV → AV → AV → AV → AV → AV → AV → AV → AV → AV → AV → H → R) (fun _ _ _ _ _ _ _ _ _ _ _ _ _ _ _ _ _ _ _ => none) (fun _ ih => B5_1 N call ih) n
def C5_1 (N : Nat) (call : CT) : OA → OA → Nat → Option Nat → Int → Int → AV → AV → AV → AV → AV → AV → AV → AV → AV → AV → AV → AV → H → R := I5_1 N call N
def S5 (N : Nat) (call : CT) (y0 : AV) (h : H) : R := S5_0 call (C5_1 N call) y0 h
def T5_1 (x_6 a_24 : OA) (n_24 : Nat) (c_24 : Option Nat) (x_25 x_26 : Int) (l1_0 l1_1 : AV) (l1_2 l1_3 : AV) (l1_4 l1_5 : AV) (l1_6 l2_0 : AV) (l2_1 l2_2 : AV) (l2_3 l2_4 : AV) : LF := [none, (some (.lptr 1 0)), (some (.lptr 2 0)), oo, oo, oo, (some (.v (.ptr x_6))), oo, oo, oo, oo, oo, oo, oo, oo, oo, oo, oo, oo, oo, oo, oo, oo, oo, (some (.v (.slice a_24 n_24 c_24))), (some (.v (.int .i64 x_25))), (some (.v (.int .i64 x_26))), oo, oo, oo, oo, oo, oo, oo, oo, oo, oo, oo, oo, oo, oo, oo, oo, oo, oo, oo, oo, oo, oo, oo, oo, oo, oo, oo, oo, oo, oo, oo, oo, oo, oo, oo, oo, oo]
def L5_1 (x_6 a_24 : OA) (n_24 : Nat) (c_24 : Option Nat) (x_25 x_26 : Int) (l1_0 l1_1 : AV) (l1_2 l1_3 : AV) (l1_4 l1_5 : AV) (l1_6 l2_0 : AV) (l2_1 l2_2 : AV) (l2_3 l2_4 : AV) : LL := [none, (some (.cells [l1_0, l1_1, l1_2, l1_3, l1_4, l1_5, l1_6])), (some (.cells [l2_0, l2_1, l2_2, l2_3, l2_4])), oo, oo, oo, oo, oo, oo, oo, oo, oo, oo, oo, oo, oo, oo, oo, oo, oo, oo, oo, oo, oo, oo, oo, oo, oo, oo, oo, oo, oo, oo, oo, oo, oo, oo, oo, oo, oo, oo, oo, oo, oo, oo, oo, oo, oo, oo, oo, oo, oo, oo, oo, oo, oo, oo, oo, oo, oo, oo, oo, oo, oo]
theorem R5_1 (N : Nat) (call : CT) (self : K3) (x_6 a_24 : OA) (n_24 : Nat) (c_24 : Option Nat) (x_25 x_26 : Int) (l1_0 l1_1 : AV) (l1_2 l1_3 : AV) (l1_4 l1_5 : AV) (l1_6 l2_0 : AV) (l2_1 l2_2 : AV) (l2_3 l2_4 : AV) (h : H) : F5_1 N call self (T5_1 x_6 a_24 n_24 c_24 x_25 x_26 l1_0 l1_1 l1_2 l1_3 l1_4 l1_5 l1_6 l2_0 l2_1 l2_2 l2_3 l2_4) (L5_1 x_6 a_24 n_24 c_24 x_25 x_26 l1_0 l1_1 l1_2 l1_3 l1_4 l1_5 l1_6 l2_0 l2_1 l2_2 l2_3 l2_4) h = S5_1 call (fun (x_6 a_24 : OA) (n_24 : Nat) (c_24 : Option Nat) (x_25 x_26 : Int) (l1_0 l1_1 : AV) (l1_2 l1_3 : AV) (l1_4 l1_5 : AV) (l1_6 l2_0 : AV) (l2_1 l2_2 : AV) (l2_3 l2_4 : AV) h => self (T5_1 x_6 a_24 n_24 c_24 x_25 x_26 l1_0 l1_1 l1_2 l1_3 l1_4 l1_5 l1_6 l2_0 l2_1 l2_2 l2_3 l2_4) (L5_1 x_6 a_24 n_24 c_24 x_25 x_26 l1_0 l1_1 l1_2 l1_3 l1_4 l1_5 l1_6 l2_0 l2_1 l2_2 l2_3 l2_4) h) x_6 a_24 n_24 c_24 x_25 x_26 l1_0 l1_1 l1_2 l1_3 l1_4 l1_5 l1_6 l2_0 l2_1 l2_2 l2_3 l2_4 h := by kernel_rfl
theorem Q5_1 (N : Nat) (call : CT) (n : Nat) : ∀ (x_6 a_24 : OA) (n_24 : Nat) (c_24 : Option Nat) (x_25 x_26 : Int) (l1_0 l1_1 : AV) (l1_2 l1_3 : AV) (l1_4 l1_5 : AV) (l1_6 l2_0 : AV) (l2_1 l2_2 : AV) (l2_3 l2_4 : AV) (h : H), (iter (F5_1 N call) n) (T5_1 x_6 a_24 n_24 c_24 x_25 x_26 l1_0 l1_1 l1_2 l1_3 l1_4 l1_5 l1_6 l2_0 l2_1 l2_2 l2_3 l2_4) (L5_1 x_6 a_24 n_24 c_24 x_25 x_26 l1_0 l1_1 l1_2 l1_3 l1_4 l1_5 l1_6 l2_0 l2_1 l2_2 l2_3 l2_4) h = I5_1 N call n x_6 a_24 n_24 c_24 x_25 x_26 l1_0 l1_1 l1_2 l1_3 l1_4 l1_5 l1_6 l2_0 l2_1 l2_2 l2_3 l2_4 h := by
  induction n with
  | zero => intros; exact (iter_zero _ _ _ _).trans (by kernel_rfl)
  | succ n ih =>
    intro x_6 a_24 n_24 c_24 x_25 x_26 l1_0 l1_1 l1_2 l1_3 l1_4 l1_5 l1_6 l2_0 l2_1 l2_2 l2_3 l2_4 h
    have e0 : (fun (x_6 a_24 : OA) (n_24 : Nat) (c_24 : Option Nat) (x_25 x_26 : Int) (l1_0 l1_1 : AV) (l1_2 l1_3 : AV) (l1_4 l1_5 : AV) (l1_6 l2_0 : AV) (l2_1 l2_2 : AV) (l2_3 l2_4 : AV) h => (iter (F5_1 N call) n) (T5_1 x_6 a_24 n_24 c_24 x_25 x_26 l1_0 l1_1 l1_2 l1_3 l1_4 l1_5 l1_6 l2_0 l2_1 l2_2 l2_3 l2_4) (L5_1 x_6 a_24 n_24 c_24 x_25 x_26 l1_0 l1_1 l1_2 l1_3 l1_4 l1_5 l1_6 l2_0 l2_1 l2_2 l2_3 l2_4) h) = (I5_1 N call n) := by funext x_6 a_24 n_24 c_24 x_25 x_26 l1_0 l1_1 l1_2 l1_3 l1_4 l1_5 l1_6 l2_0 l2_1 l2_2 l2_3 l2_4 h; exact ih x_6 a_24 n_24 c_24 x_25 x_26 l1_0 l1_1 l1_2 l1_3 l1_4 l1_5 l1_6 l2_0 l2_1 l2_2 l2_3 l2_4 h
    have r := R5_1 N call (iter (F5_1 N call) n) x_6 a_24 n_24 c_24 x_25 x_26 l1_0 l1_1 l1_2 l1_3 l1_4 l1_5 l1_6 l2_0 l2_1 l2_2 l2_3 l2_4 h
    rw [e0] at r
    have g := iter_succ (F5_1 N call) n (T5_1 x_6 a_24 n_24 c_24 x_25 x_26 l1_0 l1_1 l1_2 l1_3 l1_4 l1_5 l1_6 l2_0 l2_1 l2_2 l2_3 l2_4) (L5_1 x_6 a_24 n_24 c_24 x_25 x_26 l1_0 l1_1 l1_2 l1_3 l1_4 l1_5 l1_6 l2_0 l2_1 l2_2 l2_3 l2_4) h
    have z : S5_1 call (I5_1 N call n) x_6 a_24 n_24 c_24 x_25 x_26 l1_0 l1_1 l1_2 l1_3 l1_4 l1_5 l1_6 l2_0 l2_1 l2_2 l2_3 l2_4 h = I5_1 N call (n + 1) x_6 a_24 n_24 c_24 x_25 x_26 l1_0 l1_1 l1_2 l1_3 l1_4 l1_5 l1_6 l2_0 l2_1 l2_2 l2_3 l2_4 h := by kernel_rfl
    exact g.trans (r.trans z)
theorem Z5_1 (N : Nat) (call : CT) (x_6 a_24 : OA) (n_24 : Nat) (c_24 : Option Nat) (x_25 x_26 : Int) (l1_0 l1_1 : AV) (l1_2 l1_3 : AV) (l1_4 l1_5 : AV) (l1_6 l2_0 : AV) (l2_1 l2_2 : AV) (l2_3 l2_4 : AV) (h : H) : (E5_1 N call) (T5_1 x_6 a_24 n_24 c_24 x_25 x_26 l1_0 l1_1 l1_2 l1_3 l1_4 l1_5 l1_6 l2_0 l2_1 l2_2 l2_3 l2_4) (L5_1 x_6 a_24 n_24 c_24 x_25 x_26 l1_0 l1_1 l1_2 l1_3 l1_4 l1_5 l1_6 l2_0 l2_1 l2_2 l2_3 l2_4) h = C5_1 N call x_6 a_24 n_24 c_24 x_25 x_26 l1_0 l1_1 l1_2 l1_3 l1_4 l1_5 l1_6 l2_0 l2_1 l2_2 l2_3 l2_4 h := by
  have g : (E5_1 N call) (T5_1 x_6 a_24 n_24 c_24 x_25 x_26 l1_0 l1_1 l1_2 l1_3 l1_4 l1_5 l1_6 l2_0 l2_1 l2_2 l2_3 l2_4) (L5_1 x_6 a_24 n_24 c_24 x_25 x_26 l1_0 l1_1 l1_2 l1_3 l1_4 l1_5 l1_6 l2_0 l2_1 l2_2 l2_3 l2_4) h = iter (F5_1 N call) N (T5_1 x_6 a_24 n_24 c_24 x_25 x_26 l1_0 l1_1 l1_2 l1_3 l1_4 l1_5 l1_6 l2_0 l2_1 l2_2 l2_3 l2_4) (L5_1 x_6 a_24 n_24 c_24 x_25 x_26 l1_0 l1_1 l1_2 l1_3 l1_4 l1_5 l1_6 l2_0 l2_1 l2_2 l2_3 l2_4) h := by kernel_rfl
  have z : I5_1 N call N x_6 a_24 n_24 c_24 x_25 x_26 l1_0 l1_1 l1_2 l1_3 l1_4 l1_5 l1_6 l2_0 l2_1 l2_2 l2_3 l2_4 h = C5_1 N call x_6 a_24 n_24 c_24 x_25 x_26 l1_0 l1_1 l1_2 l1_3 l1_4 l1_5 l1_6 l2_0 l2_1 l2_2 l2_3 l2_4 h := by kernel_rfl
  exact g.trans ((Q5_1 N call N x_6 a_24 n_24 c_24 x_25 x_26 l1_0 l1_1 l1_2 l1_3 l1_4 l1_5 l1_6 l2_0 l2_1 l2_2 l2_3 l2_4 h).trans z)
theorem R5_0 (N : Nat) (call : CT) (y0 : AV) (h : H) : body Tryz.prog N call Tryz.f5 A5.an [y0] h = S5_0 call (fun (x_6 a_24 : OA) (n_24 : Nat) (c_24 : Option Nat) (x_25 x_26 : Int) (l1_0 l1_1 : AV) (l1_2 l1_3 : AV) (l1_4 l1_5 : AV) (l1_6 l2_0 : AV) (l2_1 l2_2 : AV) (l2_3 l2_4 : AV) h => (E5_1 N call) (T5_1 x_6 a_24 n_24 c_24 x_25 x_26 l1_0 l1_1 l1_2 l1_3 l1_4 l1_5 l1_6 l2_0 l2_1 l2_2 l2_3 l2_4) (L5_1 x_6 a_24 n_24 c_24 x_25 x_26 l1_0 l1_1 l1_2 l1_3 l1_4 l1_5 l1_6 l2_0 l2_1 l2_2 l2_3 l2_4) h) y0 h := by kernel_rfl
theorem Z5 (N : Nat) (call : CT) (y0 : AV) (h : H) : body Tryz.prog N call Tryz.f5 A5.an [y0] h = S5 N call y0 h := by
  have e1 : (fun (x_6 a_24 : OA) (n_24 : Nat) (c_24 : Option Nat) (x_25 x_26 : Int) (l1_0 l1_1 : AV) (l1_2 l1_3 : AV) (l1_4 l1_5 : AV) (l1_6 l2_0 : AV) (l2_1 l2_2 : AV) (l2_3 l2_4 : AV) h => (E5_1 N call) (T5_1 x_6 a_24 n_24 c_24 x_25 x_26 l1_0 l1_1 l1_2 l1_3 l1_4 l1_5 l1_6 l2_0 l2_1 l2_2 l2_3 l2_4) (L5_1 x_6 a_24 n_24 c_24 x_25 x_26 l1_0 l1_1 l1_2 l1_3 l1_4 l1_5 l1_6 l2_0 l2_1 l2_2 l2_3 l2_4) h) = (C5_1 N call) := by
    funext x_6 a_24 n_24 c_24 x_25 x_26 l1_0 l1_1 l1_2 l1_3 l1_4 l1_5 l1_6 l2_0 l2_1 l2_2 l2_3 l2_4 h
    exact Z5_1 N call x_6 a_24 n_24 c_24 x_25 x_26 l1_0 l1_1 l1_2 l1_3 l1_4 l1_5 l1_6 l2_0 l2_1 l2_2 l2_3 l2_4 h
  have r := R5_0 N call y0 h
  rw [e1] at r
  have z : S5_0 call (C5_1 N call) y0 h = S5 N call y0 h := by kernel_rfl
  exact r.trans z
theorem V5 (N : Nat) (call : CT) (vs : List AV) (h : H) : body Tryz.prog N call Tryz.f5 A5.an vs h = row1 (fun y0 => S5 N call y0 h) vs := wrap1 (by kernel_rfl) (fun y0 => Z5 N call y0 h) vs
/- sibyl/sibyllaw8.program -/
def A6.a0 : Ann := .items [.opL 0]
def A6.a1 : Ann := .items [.op 0, .op 1, .op 2, .op 3, .op 4, .op 5, .opL 6, .op 7, .op 8, .op 9]
def A6.a2 : Ann := .items [.op 0, .op 1]
def A6.a3 : Ann := .leaf
def A6.a4 : Ann := .two A6.a2 A6.a3
def A6.a5 : Ann := .two A6.a1 A6.a4
def A6.an : Ann := .two A6.a0 A6.a5
def S6_0 (call : CT) (y0 : AV) (h : H) : R :=
  onStr y0 (fun s1 => bindR (call 14 [(.str s1)] h) (fun v2 h3 => onTuple v2 0 (fun v4 => onAgR v4 (fun l12 => row7 (fun x5 x6 x7 x8 x9 x10 x11 => onTuple v2 1 (fun v13 => onInt .i64 v13 (fun i14 => onTuple v2 2 (fun v15 => onInt .i64 v15 (fun i16 => some ((.agg [x5, x6, x7, x8, x9, x10, x11]), h3)))))) l12))))
def S6 (N : Nat) (call : CT) (y0 : AV) (h : H) : R := S6_0 call y0 h
theorem R6_0 (N : Nat) (call : CT) (y0 : AV) (h : H) : body Tryz.prog N call Tryz.f6 A6.an [y0] h = S6_0 call y0 h := by kernel_rfl
theorem Z6 (N : Nat) (call : CT) (y0 : AV) (h : H) : body Tryz.prog N call Tryz.f6 A6.an [y0] h = S6 N call y0 h := by
  have r := R6_0 N call y0 h
  have z : S6_0 call y0 h = S6 N call y0 h := by kernel_rfl
  exact r.trans z
theorem V6 (N : Nat) (call : CT) (vs : List AV) (h : H) : body Tryz.prog N call Tryz.f6 A6.an vs h = row1 (fun y0 => S6 N call y0 h) vs := wrap1 (by kernel_rfl) (fun y0 => Z6 N call y0 h) vs
/- sibyl/sibylref3.Size -/
def A7.a0 : Ann := .items [.opL 0, .op 1]
def A7.a1 : Ann := .items [.op 0, .op 1, .op 2]
def A7.a2 : Ann := .leaf
def A7.a3 : Ann := .two A7.a1 A7.a2
def A7.an : Ann := .two A7.a0 A7.a3
def S7_0 (call : CT) (y0 : AV) (h : H) : R :=
  onAgR y0 (fun l6 => row5 (fun x1 x2 x3 x4 x5 => bindR (call 15 [(.agg [x1, x2, x3, x4, x5]), (.int .i64 (Int.ofNat 2001))] h) (fun v7 h8 => onInt .i64 v7 (fun i9 => some ((.int .i64 i9), h8)))) l6)
def S7 (N : Nat) (call : CT) (y0 : AV) (h : H) : R := S7_0 call y0 h
theorem R7_0 (N : Nat) (call : CT) (y0 : AV) (h : H) : body Tryz.prog N call Tryz.f7 A7.an [y0] h = S7_0 call y0 h := by kernel_rfl
theorem Z7 (N : Nat) (call : CT) (y0 : AV) (h : H) : body Tryz.prog N call Tryz.f7 A7.an [y0] h = S7 N call y0 h := by
  have r := R7_0 N call y0 h
  have z : S7_0 call y0 h = S7 N call y0 h := by kernel_rfl
  exact r.trans z
theorem V7 (N : Nat) (call : CT) (vs : List AV) (h : H) : body Tryz.prog N call Tryz.f7 A7.an vs h = row1 (fun y0 => S7 N call y0 h) vs := wrap1 (by kernel_rfl) (fun y0 => Z7 N call y0 h) vs
/- sibyl/sibyllaw8.known -/
def A8.a0 : Ann := .items [.op 0]
def A8.a1 : Ann := .items [.op 0, .op 1, .op 2, .op 3, .op 4, .opL 5, .op 6, .op 7]
def A8.a2 : Ann := .drawn [.op 0, .op 1, .op 2, .split 10, .op 4, .op 3, .op 5, .op 6, .op 7, .op 8]
def A8.a3 : Ann := .leaf
def A8.a4 : Ann := .two A8.a2 A8.a3
def A8.a5 : Ann := .two A8.a1 A8.a4
def A8.an : Ann := .two A8.a0 A8.a5
def S8_0 (call : CT) (h : H) : R :=
  bindR (call 6 [(.str [112, 114, 101, 100, 32, 112, 40, 118, 97, 114, 49, 32, 97, 41, 32, 61, 32, 97, 32, 60, 32, 51, 59, 32, 101, 120, 49, 32, 120, 58, 32, 112, 40, 120, 41, 59])] h) (fun v1 h2 => onAgR v1 (fun l10 => row7 (fun x3 x4 x5 x6 x7 x8 x9 => bindR (call 5 [(.agg [x3, x4, x5, x6, x7, x8, x9])] h2) (fun v11 h12 => onTuple v11 0 (fun v13 => onAgR v13 (fun l19 => row5 (fun x14 x15 x16 x17 x18 => onTuple v11 1 (fun v20 => onInt .i64 v20 (fun i21 => ifB (eqI i21 (Int.ofNat 0)) (bindR (call 6 [(.str [101, 120, 49, 32, 120, 58, 32, 120, 32, 60, 32, 51, 59])] h12) (fun v22 h23 => onAgR v22 (fun l31 => row7 (fun x24 x25 x26 x27 x28 x29 x30 => guardB (sameAV (.agg [x14, x15, x16, x17, x18]) (.agg [x14, x15, x16, x17, x18])) (bindR (call 16 [(.agg [x14, x15, x16, x17, x18]), (.agg [x26, x27, x28, x29, x30])] h23) (fun v32 h33 => onBool v32 (fun e34 => some ((.bool e34), h33))))) l31))) (some ((.bool false), h12))))) l19)))) l10))
def S8 (N : Nat) (call : CT) (h : H) : R := S8_0 call h
theorem R8_0 (N : Nat) (call : CT) (h : H) : body Tryz.prog N call Tryz.f8 A8.an [] h = S8_0 call h := by kernel_rfl
theorem Z8 (N : Nat) (call : CT) (h : H) : body Tryz.prog N call Tryz.f8 A8.an [] h = S8 N call h := by
  have r := R8_0 N call h
  have z : S8_0 call h = S8 N call h := by kernel_rfl
  exact r.trans z
theorem V8 (N : Nat) (call : CT) (vs : List AV) (h : H) : body Tryz.prog N call Tryz.f8 A8.an vs h = row0 (S8 N call h) vs := wrap0 (by kernel_rfl) (Z8 N call h) vs
/- sibyl/kinds.Check -/
def A12.a0 : Ann := .items [.opL 0, .op 1, .op 2]
def A12.a1 : Ann := .items [.op 0, .op 1, .op 2]
def A12.a2 : Ann := .items [.op 0, .op 1]
def A12.a3 : Ann := .leaf
def A12.a4 : Ann := .two A12.a2 A12.a3
def A12.a5 : Ann := .leaf
def A12.a6 : Ann := .two A12.a4 A12.a5
def A12.a7 : Ann := .two A12.a1 A12.a6
def A12.a8 : Ann := .items [.op 0, .op 1, .op 2, .op 3, .op 4, .op 5, .op 6, .op 7]
def A12.a9 : Ann := .items [.op 0, .op 1]
def A12.a10 : Ann := .items [.op 0, .op 1, .op 2, .op 3]
def A12.a11 : Ann := .leaf
def A12.a12 : Ann := .two A12.a10 A12.a11
def A12.a13 : Ann := .leaf
def A12.a14 : Ann := .two A12.a12 A12.a13
def A12.a15 : Ann := .two A12.a9 A12.a14
def A12.a16 : Ann := .two A12.a8 A12.a15
def A12.a17 : Ann := .items [.op 0, .op 1, .op 2]
def A12.a18 : Ann := .items [.op 0, .op 1, .op 2, .op 3]
def A12.a19 : Ann := .items [.op 0]
def A12.a20 : Ann := .leaf
def A12.a21 : Ann := .leaf
def A12.a22 : Ann := .two A12.a20 A12.a21
def A12.a23 : Ann := .items [.op 0, .op 1, .opL 2, .op 3]
def A12.a24 : Ann := .items [.op 0, .op 1, .op 2, .op 3, .op 4, .op 5, .op 6, .op 7]
def A12.a25 : Ann := .items [.op 0, .op 1]
def A12.a26 : Ann := .items [.op 0, .op 1, .op 2, .op 3]
def A12.a27 : Ann := .leaf
def A12.a28 : Ann := .two A12.a26 A12.a27
def A12.a29 : Ann := .leaf
def A12.a30 : Ann := .two A12.a28 A12.a29
def A12.a31 : Ann := .two A12.a25 A12.a30
def A12.a32 : Ann := .two A12.a24 A12.a31
def A12.a33 : Ann := .drawn [.op 1, .op 2, .op 3, .op 4, .op 5, .opL 6, .op 7, .op 0, .op 8, .op 9, .op 10]
def A12.a34 : Ann := .two A12.a32 A12.a33
def A12.a35 : Ann := .two A12.a23 A12.a34
def A12.a36 : Ann := .one A12.a35
def A12.a37 : Ann := .items [.op 0, .op 1]
def A12.a38 : Ann := .two A12.a36 A12.a37
def A12.a39 : Ann := .two A12.a22 A12.a38
def A12.a40 : Ann := .two A12.a19 A12.a39
def A12.a41 : Ann := .meet [1, 6, 27, 28, 29] [1] A12.a40
def A12.a42 : Ann := .one A12.a41
def A12.a43 : Ann := .two A12.a18 A12.a42
def A12.a44 : Ann := .items [.op 0, .op 1, .op 2, .op 3, .op 4, .op 5, .op 6, .op 7, .op 8, .op 9]
def A12.a45 : Ann := .leaf
def A12.a46 : Ann := .two A12.a44 A12.a45
def A12.a47 : Ann := .two A12.a43 A12.a46
def A12.a48 : Ann := .two A12.a17 A12.a47
def A12.a49 : Ann := .two A12.a16 A12.a48
def A12.a50 : Ann := .two A12.a7 A12.a49
def A12.an : Ann := .two A12.a0 A12.a50
def F12_1 (N : Nat) (call : CT) (self : K3) : K3 :=
  (codeK Tryz.prog N call (c1 (c1 (c2 (c1 (c2 (c2 (c2 (c2 (bodyOf Tryz.f12))))))))) A12.a40 (fun T L h => self (keepT [1, 6, 27, 28, 29] T) (keepL [1] L) h) (fun i T L h => match Nat.beq i 0 with | true => (codeK Tryz.prog N call (c2 (c2 (c2 (c2 (c2 (bodyOf Tryz.f12)))))) A12.a46 (resK Tryz.prog Tryz.f12.results.toList) (fun _ _ _ _ => none) (resK Tryz.prog Tryz.f12.results.toList)) T L h | false => (fun _ _ _ _ => none) i T L h) (resK Tryz.prog Tryz.f12.results.toList))
def E12_1 (N : Nat) (call : CT) : K3 := iter (F12_1 N call) N
def S12_1 (call : CT) (k1 : OA → OA → Nat → Option Nat → Int → Int → AV → AV → AV → AV → AV → AV → AV → H → R) (x_6 a_27 : OA) (n_27 : Nat) (c_27 : Option Nat) (x_28 x_29 : Int) (l1_0 l1_1 : AV) (l1_2 l1_3 : AV) (l1_4 l1_5 l1_6 : AV) (h : H) : R :=
  ifB (ltI x_29 x_28) (idxAddr 8 a_27 n_27 x_29 (fun b1 o2 => ldK h b1 o2 8 (fun l3 => row8 (fun x4 x5 x6 x7 x8 x9 x10 x11 => bindR (call 24 [(.ptr x_6), (.agg [x4, x5, x6, x7, x8, x9, x10, x11])] h) (fun v12 h13 => onTuple v12 0 (fun v14 => onInt .i64 v14 (fun i15 => onTuple v12 1 (fun v16 => onInt .i64 v16 (fun i17 => ifB (!eqI i17 (Int.ofNat 0)) (some (.tuple [(.int .i64 i15), (.int .i64 i17)], h13)) (onSome x_6 (fun b18 o19 => ldK h13 b18 (o19 + 0) 1 (one (fun v20 => onSlice v20 (fun a21 n22 c23 => appL h13 8 a21 n22 c23 1 [x4, x5, x6, x7, x8, x9, x10, x11] (fun a24 n25 c26 h27 => onSome x_6 (fun b28 o29 => stK h27 b28 (o29 + 0) [(.slice a24 n25 c26)] (fun h30 => k1 x_6 a_27 n_27 c_27 x_28 (wrapF .i64 (Int.add x_29 (Int.ofNat 1))) l1_0 l1_1 l1_2 l1_3 l1_4 l1_5 l1_6 h30)))))))))))))) l3))) (onSlice l1_0 (fun a31 n32 c33 => bindR (call 25 [(.ptr x_6), (.slice a31 n32 c33), (.agg [l1_2, l1_3, l1_4, l1_5, l1_6])] h) (fun v34 h35 => onTuple v34 0 (fun v36 => onInt .i64 v36 (fun i37 => onTuple v34 1 (fun v38 => onInt .i64 v38 (fun i39 => some (.tuple [(.int .i64 i37), (.int .i64 i39)], h35))))))))
def S12_0 (call : CT) (k1 : OA → OA → Nat → Option Nat → Int → Int → AV → AV → AV → AV → AV → AV → AV → H → R) (y0 : AV) (h : H) : R :=
  onAgR y0 (fun l8 => row7 (fun x1 x2 x3 x4 x5 x6 x7 => bindR (call 22 [(.agg [x1, x2, x3, x4, x5, x6, x7])] h) (fun v9 h10 => onBool v9 (fun e11 => ifB (!e11) (some (.tuple [(.int .i64 (Int.ofNat 0)), (.int .i64 (Int.ofNat 1))], h10)) (onSlice x1 (fun a12 n13 c14 => bindR (call 23 [(.slice a12 n13 c14)] h10) (fun v15 h16 => onTuple v15 0 (fun v17 => onInt .i64 v17 (fun i18 => onTuple v15 1 (fun v19 => onInt .i64 v19 (fun i20 => ifB (!eqI i20 (Int.ofNat 0)) (some (.tuple [(.int .i64 i18), (.int .i64 i20)], h16)) (newK h16 [(.slice none 0 (some 0))] (fun b21 h22 => onSlice x2 (fun a23 n24 c25 => k1 (some (b21, 0)) a23 n24 c25 (Int.ofNat n24) (Int.ofNat 0) x1 x2 x3 x4 x5 x6 x7 h22))))))))))))) l8)
def B12_1 (N : Nat) (call : CT) (ih : OA → OA → Nat → Option Nat → Int → Int → AV → AV → AV → AV → AV → AV → AV → H → R) : OA → OA → Nat → Option Nat → Int → Int → AV → AV → AV → AV → AV → AV → AV → H → R := S12_1 call ih
def I12_1 (N : Nat) (call : CT) (n : Nat) : OA → OA → Nat → Option Nat → Int → Int → AV → AV → AV → AV → AV → AV → AV → H → R := Nat.rec (motive := fun _ => OA → OA → Nat → Option Nat → Int → Int → AV → AV → AV → AV → AV → AV → AV → H → R) (fun _ _ _ _ _ _ _ _ _ _ _ _ _ _ => none) (fun _ ih => B12_1 N call ih) n
def C12_1 (N : Nat) (call : CT) : OA → OA → Nat → Option Nat → Int → Int → AV → AV → AV → AV → AV → AV → AV → H → R := I12_1 N call N
def S12 (N : Nat) (call : CT) (y0 : AV) (h : H) : R := S12_0 call (C12_1 N call) y0 h
def T12_1 (x_6 a_27 : OA) (n_27 : Nat) (c_27 : Option Nat) (x_28 x_29 : Int) (l1_0 l1_1 : AV) (l1_2 l1_3 : AV) (l1_4 l1_5 l1_6 : AV) : LF := [none, (some (.lptr 1 0)), oo, oo, oo, oo, (some (.v (.ptr x_6))), oo, oo, oo, oo, oo, oo, oo, oo, oo, oo, oo, oo, oo, oo, oo, oo, oo, oo, oo, oo, (some (.v (.slice a_27 n_27 c_27))), (some (.v (.int .i64 x_28))), (some (.v (.int .i64 x_29))), oo, oo, oo, oo, oo, oo, oo, oo, oo, oo, oo, oo, oo, oo, oo, oo, oo, oo, oo, oo, oo, oo, oo, oo, oo, oo, oo, oo, oo, oo, oo, oo]
def L12_1 (x_6 a_27 : OA) (n_27 : Nat) (c_27 : Option Nat) (x_28 x_29 : Int) (l1_0 l1_1 : AV) (l1_2 l1_3 : AV) (l1_4 l1_5 l1_6 : AV) : LL := [none, (some (.cells [l1_0, l1_1, l1_2, l1_3, l1_4, l1_5, l1_6])), oo, oo, oo, oo, oo, oo, oo, oo, oo, oo, oo, oo, oo, oo, oo, oo, oo, oo, oo, oo, oo, oo, oo, oo, oo, oo, oo, oo, oo, oo, oo, oo, oo, oo, oo, oo, oo, oo, oo, oo, oo, oo, oo, oo, oo, oo, oo, oo, oo, oo, oo, oo, oo, oo, oo, oo, oo, oo, oo, oo]
theorem R12_1 (N : Nat) (call : CT) (self : K3) (x_6 a_27 : OA) (n_27 : Nat) (c_27 : Option Nat) (x_28 x_29 : Int) (l1_0 l1_1 : AV) (l1_2 l1_3 : AV) (l1_4 l1_5 l1_6 : AV) (h : H) : F12_1 N call self (T12_1 x_6 a_27 n_27 c_27 x_28 x_29 l1_0 l1_1 l1_2 l1_3 l1_4 l1_5 l1_6) (L12_1 x_6 a_27 n_27 c_27 x_28 x_29 l1_0 l1_1 l1_2 l1_3 l1_4 l1_5 l1_6) h = S12_1 call (fun (x_6 a_27 : OA) (n_27 : Nat) (c_27 : Option Nat) (x_28 x_29 : Int) (l1_0 l1_1 : AV) (l1_2 l1_3 : AV) (l1_4 l1_5 l1_6 : AV) h => self (T12_1 x_6 a_27 n_27 c_27 x_28 x_29 l1_0 l1_1 l1_2 l1_3 l1_4 l1_5 l1_6) (L12_1 x_6 a_27 n_27 c_27 x_28 x_29 l1_0 l1_1 l1_2 l1_3 l1_4 l1_5 l1_6) h) x_6 a_27 n_27 c_27 x_28 x_29 l1_0 l1_1 l1_2 l1_3 l1_4 l1_5 l1_6 h := by kernel_rfl
theorem Q12_1 (N : Nat) (call : CT) (n : Nat) : ∀ (x_6 a_27 : OA) (n_27 : Nat) (c_27 : Option Nat) (x_28 x_29 : Int) (l1_0 l1_1 : AV) (l1_2 l1_3 : AV) (l1_4 l1_5 l1_6 : AV) (h : H), (iter (F12_1 N call) n) (T12_1 x_6 a_27 n_27 c_27 x_28 x_29 l1_0 l1_1 l1_2 l1_3 l1_4 l1_5 l1_6) (L12_1 x_6 a_27 n_27 c_27 x_28 x_29 l1_0 l1_1 l1_2 l1_3 l1_4 l1_5 l1_6) h = I12_1 N call n x_6 a_27 n_27 c_27 x_28 x_29 l1_0 l1_1 l1_2 l1_3 l1_4 l1_5 l1_6 h := by
  induction n with
  | zero => intros; exact (iter_zero _ _ _ _).trans (by kernel_rfl)
  | succ n ih =>
    intro x_6 a_27 n_27 c_27 x_28 x_29 l1_0 l1_1 l1_2 l1_3 l1_4 l1_5 l1_6 h
    have e0 : (fun (x_6 a_27 : OA) (n_27 : Nat) (c_27 : Option Nat) (x_28 x_29 : Int) (l1_0 l1_1 : AV) (l1_2 l1_3 : AV) (l1_4 l1_5 l1_6 : AV) h => (iter (F12_1 N call) n) (T12_1 x_6 a_27 n_27 c_27 x_28 x_29 l1_0 l1_1 l1_2 l1_3 l1_4 l1_5 l1_6) (L12_1 x_6 a_27 n_27 c_27 x_28 x_29 l1_0 l1_1 l1_2 l1_3 l1_4 l1_5 l1_6) h) = (I12_1 N call n) := by funext x_6 a_27 n_27 c_27 x_28 x_29 l1_0 l1_1 l1_2 l1_3 l1_4 l1_5 l1_6 h; exact ih x_6 a_27 n_27 c_27 x_28 x_29 l1_0 l1_1 l1_2 l1_3 l1_4 l1_5 l1_6 h
    have r := R12_1 N call (iter (F12_1 N call) n) x_6 a_27 n_27 c_27 x_28 x_29 l1_0 l1_1 l1_2 l1_3 l1_4 l1_5 l1_6 h
    rw [e0] at r
    have g := iter_succ (F12_1 N call) n (T12_1 x_6 a_27 n_27 c_27 x_28 x_29 l1_0 l1_1 l1_2 l1_3 l1_4 l1_5 l1_6) (L12_1 x_6 a_27 n_27 c_27 x_28 x_29 l1_0 l1_1 l1_2 l1_3 l1_4 l1_5 l1_6) h
    have z : S12_1 call (I12_1 N call n) x_6 a_27 n_27 c_27 x_28 x_29 l1_0 l1_1 l1_2 l1_3 l1_4 l1_5 l1_6 h = I12_1 N call (n + 1) x_6 a_27 n_27 c_27 x_28 x_29 l1_0 l1_1 l1_2 l1_3 l1_4 l1_5 l1_6 h := by kernel_rfl
    exact g.trans (r.trans z)
theorem Z12_1 (N : Nat) (call : CT) (x_6 a_27 : OA) (n_27 : Nat) (c_27 : Option Nat) (x_28 x_29 : Int) (l1_0 l1_1 : AV) (l1_2 l1_3 : AV) (l1_4 l1_5 l1_6 : AV) (h : H) : (E12_1 N call) (T12_1 x_6 a_27 n_27 c_27 x_28 x_29 l1_0 l1_1 l1_2 l1_3 l1_4 l1_5 l1_6) (L12_1 x_6 a_27 n_27 c_27 x_28 x_29 l1_0 l1_1 l1_2 l1_3 l1_4 l1_5 l1_6) h = C12_1 N call x_6 a_27 n_27 c_27 x_28 x_29 l1_0 l1_1 l1_2 l1_3 l1_4 l1_5 l1_6 h := by
  have g : (E12_1 N call) (T12_1 x_6 a_27 n_27 c_27 x_28 x_29 l1_0 l1_1 l1_2 l1_3 l1_4 l1_5 l1_6) (L12_1 x_6 a_27 n_27 c_27 x_28 x_29 l1_0 l1_1 l1_2 l1_3 l1_4 l1_5 l1_6) h = iter (F12_1 N call) N (T12_1 x_6 a_27 n_27 c_27 x_28 x_29 l1_0 l1_1 l1_2 l1_3 l1_4 l1_5 l1_6) (L12_1 x_6 a_27 n_27 c_27 x_28 x_29 l1_0 l1_1 l1_2 l1_3 l1_4 l1_5 l1_6) h := by kernel_rfl
  have z : I12_1 N call N x_6 a_27 n_27 c_27 x_28 x_29 l1_0 l1_1 l1_2 l1_3 l1_4 l1_5 l1_6 h = C12_1 N call x_6 a_27 n_27 c_27 x_28 x_29 l1_0 l1_1 l1_2 l1_3 l1_4 l1_5 l1_6 h := by kernel_rfl
  exact g.trans ((Q12_1 N call N x_6 a_27 n_27 c_27 x_28 x_29 l1_0 l1_1 l1_2 l1_3 l1_4 l1_5 l1_6 h).trans z)
theorem R12_0 (N : Nat) (call : CT) (y0 : AV) (h : H) : body Tryz.prog N call Tryz.f12 A12.an [y0] h = S12_0 call (fun (x_6 a_27 : OA) (n_27 : Nat) (c_27 : Option Nat) (x_28 x_29 : Int) (l1_0 l1_1 : AV) (l1_2 l1_3 : AV) (l1_4 l1_5 l1_6 : AV) h => (E12_1 N call) (T12_1 x_6 a_27 n_27 c_27 x_28 x_29 l1_0 l1_1 l1_2 l1_3 l1_4 l1_5 l1_6) (L12_1 x_6 a_27 n_27 c_27 x_28 x_29 l1_0 l1_1 l1_2 l1_3 l1_4 l1_5 l1_6) h) y0 h := by kernel_rfl
theorem Z12 (N : Nat) (call : CT) (y0 : AV) (h : H) : body Tryz.prog N call Tryz.f12 A12.an [y0] h = S12 N call y0 h := by
  have e1 : (fun (x_6 a_27 : OA) (n_27 : Nat) (c_27 : Option Nat) (x_28 x_29 : Int) (l1_0 l1_1 : AV) (l1_2 l1_3 : AV) (l1_4 l1_5 l1_6 : AV) h => (E12_1 N call) (T12_1 x_6 a_27 n_27 c_27 x_28 x_29 l1_0 l1_1 l1_2 l1_3 l1_4 l1_5 l1_6) (L12_1 x_6 a_27 n_27 c_27 x_28 x_29 l1_0 l1_1 l1_2 l1_3 l1_4 l1_5 l1_6) h) = (C12_1 N call) := by
    funext x_6 a_27 n_27 c_27 x_28 x_29 l1_0 l1_1 l1_2 l1_3 l1_4 l1_5 l1_6 h
    exact Z12_1 N call x_6 a_27 n_27 c_27 x_28 x_29 l1_0 l1_1 l1_2 l1_3 l1_4 l1_5 l1_6 h
  have r := R12_0 N call y0 h
  rw [e1] at r
  have z : S12_0 call (C12_1 N call) y0 h = S12 N call y0 h := by kernel_rfl
  exact r.trans z
theorem V12 (N : Nat) (call : CT) (vs : List AV) (h : H) : body Tryz.prog N call Tryz.f12 A12.an vs h = row1 (fun y0 => S12 N call y0 h) vs := wrap1 (by kernel_rfl) (fun y0 => Z12 N call y0 h) vs
/- (*sibyl/macro.expander).whole -/
def A13.a0 : Ann := .items [.opL 0, .opL 1, .op 2]
def A13.a1 : Ann := .items [.op 0, .op 1, .op 2, .op 3]
def A13.a2 : Ann := .items [.op 0, .op 1, .op 2, .op 3, .op 4, .op 5, .op 6]
def A13.a3 : Ann := .leaf
def A13.a4 : Ann := .two A13.a2 A13.a3
def A13.a5 : Ann := .two A13.a1 A13.a4
def A13.an : Ann := .two A13.a0 A13.a5
def S13_0 (call : CT) (y0 y1 : AV) (h : H) : R :=
  onPtr y0 (fun p1 => onAgR y1 (fun l7 => row5 (fun x2 x3 x4 x5 x6 => onSome p1 (fun b8 o9 => stK h b8 (o9 + 1) [(.int .i64 (Int.ofNat 2000))] (fun h10 => bindR (call 26 [(.ptr p1), (.agg [x2, x3, x4, x5, x6])] h10) (fun v11 h12 => onTuple v11 0 (fun v13 => onAgR v13 (fun l19 => row5 (fun x14 x15 x16 x17 x18 => onTuple v11 1 (fun v20 => onBool v20 (fun e21 => some (.tuple [(.agg [x14, x15, x16, x17, x18]), (.bool e21)], h12)))) l19)))))) l7))
def S13 (N : Nat) (call : CT) (y0 y1 : AV) (h : H) : R := S13_0 call y0 y1 h
theorem R13_0 (N : Nat) (call : CT) (y0 y1 : AV) (h : H) : body Tryz.prog N call Tryz.f13 A13.an [y0, y1] h = S13_0 call y0 y1 h := by kernel_rfl
theorem Z13 (N : Nat) (call : CT) (y0 y1 : AV) (h : H) : body Tryz.prog N call Tryz.f13 A13.an [y0, y1] h = S13 N call y0 y1 h := by
  have r := R13_0 N call y0 y1 h
  have z : S13_0 call y0 y1 h = S13 N call y0 y1 h := by kernel_rfl
  exact r.trans z
theorem V13 (N : Nat) (call : CT) (vs : List AV) (h : H) : body Tryz.prog N call Tryz.f13 A13.an vs h = row2 (fun y0 y1 => S13 N call y0 y1 h) vs := wrap2 (by kernel_rfl) (fun y0 y1 => Z13 N call y0 y1 h) vs
/- sibyl/sibylref4.Parse -/
def A14.a0 : Ann := .items [.opL 0, .op 1, .op 2]
def A14.a1 : Ann := .items [.op 0, .op 1, .op 2, .op 3, .op 4, .op 5, .op 6, .op 7, .op 8]
def A14.a2 : Ann := .items [.op 0, .op 1]
def A14.a3 : Ann := .items [.op 0, .op 1, .op 2, .op 3, .op 4, .op 5]
def A14.a4 : Ann := .leaf
def A14.a5 : Ann := .two A14.a3 A14.a4
def A14.a6 : Ann := .leaf
def A14.a7 : Ann := .two A14.a5 A14.a6
def A14.a8 : Ann := .two A14.a2 A14.a7
def A14.a9 : Ann := .items [.op 0, .op 1, .op 2, .op 3]
def A14.a10 : Ann := .items [.op 0, .opL 1, .op 2]
def A14.a11 : Ann := .items [.op 0, .op 1, .op 2, .op 3, .op 4, .op 5, .split 30, .op 6, .op 7, .op 8, .split 33, .op 9, .op 10, .op 11, .op 12, .op 13]
def A14.a12 : Ann := .leaf
def A14.a13 : Ann := .leaf
def A14.a14 : Ann := .two A14.a12 A14.a13
def A14.a15 : Ann := .join [0, 2, 8, 9, 38] [2, 9] A14.a11 A14.a14
def A14.a16 : Ann := .items [.op 0, .op 1]
def A14.a17 : Ann := .drawn [.op 2, .op 3, .op 0, .op 1, .opL 4, .op 5, .op 6, .op 7]
def A14.a18 : Ann := .drawn [.op 2, .op 3, .op 0, .op 1, .op 4, .op 5, .op 6]
def A14.a19 : Ann := .two A14.a17 A14.a18
def A14.a20 : Ann := .two A14.a16 A14.a19
def A14.a21 : Ann := .one A14.a20
def A14.a22 : Ann := .join [0, 2, 8, 9] [2, 9] A14.a15 A14.a21
def A14.a23 : Ann := .meet [0, 2, 8, 9] [2, 9] A14.a22
def A14.a24 : Ann := .one A14.a23
def A14.a25 : Ann := .items [.op 0, .op 1, .op 2, .op 3]
def A14.a26 : Ann := .items [.op 0, .op 1]
def A14.a27 : Ann := .items [.op 0, .op 1, .op 2, .op 3]
def A14.a28 : Ann := .items [.op 0, .op 1, .op 2, .op 3, .op 4]
def A14.a29 : Ann := .leaf
def A14.a30 : Ann := .two A14.a28 A14.a29
def A14.a31 : Ann := .two A14.a27 A14.a30
def A14.a32 : Ann := .items [.op 0, .op 1, .op 2, .op 3, .op 4]
def A14.a33 : Ann := .drawn [.op 0, .op 9, .op 1, .op 2, .op 3, .op 4, .op 5, .op 6, .op 7, .op 8, .op 10, .op 11]
def A14.a34 : Ann := .leaf
def A14.a35 : Ann := .two A14.a33 A14.a34
def A14.a36 : Ann := .leaf
def A14.a37 : Ann := .two A14.a35 A14.a36
def A14.a38 : Ann := .two A14.a32 A14.a37
def A14.a39 : Ann := .items [.op 0, .op 1, .op 2, .op 3, .op 4, .op 5]
def A14.a40 : Ann := .leaf
def A14.a41 : Ann := .two A14.a39 A14.a40
def A14.a42 : Ann := .two A14.a38 A14.a41
def A14.a43 : Ann := .join [0, 2, 8, 9] [2, 9] A14.a31 A14.a42
def A14.a44 : Ann := .two A14.a26 A14.a43
def A14.a45 : Ann := .two A14.a25 A14.a44
def A14.a46 : Ann := .two A14.a24 A14.a45
def A14.a47 : Ann := .two A14.a10 A14.a46
def A14.a48 : Ann := .two A14.a9 A14.a47
def A14.a49 : Ann := .two A14.a8 A14.a48
def A14.a50 : Ann := .two A14.a1 A14.a49
def A14.an : Ann := .two A14.a0 A14.a50
def F14_1 (N : Nat) (call : CT) (self : K3) : K3 :=
  (codeK Tryz.prog N call (c1 (c1 (c1 (c2 (c2 (c2 (c2 (c2 (bodyOf Tryz.f14))))))))) A14.a22 (fun T L h => self (keepT [0, 2, 8, 9] T) (keepL [2, 9] L) h) (fun i T L h => match Nat.beq i 0 with | true => (codeK Tryz.prog N call (c2 (c2 (c2 (c2 (c2 (c2 (bodyOf Tryz.f14))))))) A14.a45 (resK Tryz.prog Tryz.f14.results.toList) (fun _ _ _ _ => none) (resK Tryz.prog Tryz.f14.results.toList)) T L h | false => (fun _ _ _ _ => none) i T L h) (resK Tryz.prog Tryz.f14.results.toList))
def E14_1 (N : Nat) (call : CT) : K3 := iter (F14_1 N call) N
def E14_2 (N : Nat) (call : CT) (D1 : K3) : K3 :=
  (codeK Tryz.prog N call (c2 (c1 (c1 (c1 (c2 (c2 (c2 (c2 (c2 (bodyOf Tryz.f14)))))))))) A14.a21 (fun T L h => D1 (keepT [0, 2, 8, 9] T) (keepL [2, 9] L) h) (fun i T L h => match Nat.beq i 0 with | true => (codeK Tryz.prog N call (c2 (c2 (c2 (c2 (c2 (c2 (bodyOf Tryz.f14))))))) A14.a45 (resK Tryz.prog Tryz.f14.results.toList) (fun _ _ _ _ => none) (resK Tryz.prog Tryz.f14.results.toList)) T L h | false => (fun _ _ _ _ => none) i T L h) (resK Tryz.prog Tryz.f14.results.toList))
def E14_3 (N : Nat) (call : CT) (D1 : K3) : K3 :=
  (codeK Tryz.prog N call (c2 (c1 (c1 (c1 (c1 (c2 (c2 (c2 (c2 (c2 (bodyOf Tryz.f14))))))))))) A14.a14 (fun T L h => (E14_2 N call D1) (keepT [0, 2, 8, 9] T) (keepL [2, 9] L) h) (fun i T L h => match Nat.beq i 0 with | true => (codeK Tryz.prog N call (c2 (c2 (c2 (c2 (c2 (c2 (bodyOf Tryz.f14))))))) A14.a45 (resK Tryz.prog Tryz.f14.results.toList) (fun _ _ _ _ => none) (resK Tryz.prog Tryz.f14.results.toList)) T L h | false => (fun _ _ _ _ => none) i T L h) (resK Tryz.prog Tryz.f14.results.toList))
def E14_4 (N : Nat) (call : CT) : K3 :=
  (codeK Tryz.prog N call (c2 (c2 (c2 (c2 (c2 (c2 (c2 (c2 (c2 (bodyOf Tryz.f14)))))))))) A14.a42 (resK Tryz.prog Tryz.f14.results.toList) (fun _ _ _ _ => none) (resK Tryz.prog Tryz.f14.results.toList))
def S14_1 (call : CT) (k3 : List Nat → OA → Bool → AV → AV → AV → AV → AV → AV → AV → AV → AV → AV → AV → AV → AV → AV → H → R) (x_0 : List Nat) (x_8 : OA) (l2_0 l2_1 : AV) (l2_2 l2_3 : AV) (l2_4 l2_5 : AV) (l2_6 l9_0 : AV) (l9_1 l9_2 : AV) (l9_3 l9_4 : AV) (l9_5 l9_6 : AV) (h : H) : R :=
  onSome x_8 (fun b1 o2 => ldK h b1 (o2 + 2) 1 (one (fun v3 => onInt .i64 v3 (fun i4 => ifB (eqI i4 (Int.ofNat 0)) (bindR (call 28 [(.ptr x_8), (.str [112, 114, 101, 100])] h) (fun v5 h6 => onBool v5 (fun e7 => ifB e7 (k3 x_0 x_8 true l2_0 l2_1 l2_2 l2_3 l2_4 l2_5 l2_6 l9_0 l9_1 l9_2 l9_3 l9_4 l9_5 l9_6 h6) (bindR (call 29 [(.ptr x_8), (.str [118, 97, 114])] h6) (fun v8 h9 => onInt .i64 v8 (fun i10 => k3 x_0 x_8 (leI (Int.ofNat 0) i10) l2_0 l2_1 l2_2 l2_3 l2_4 l2_5 l2_6 l9_0 l9_1 l9_2 l9_3 l9_4 l9_5 l9_6 h9)))))) (k3 x_0 x_8 false l2_0 l2_1 l2_2 l2_3 l2_4 l2_5 l2_6 l9_0 l9_1 l9_2 l9_3 l9_4 l9_5 l9_6 h)))))
def S14_2 (call : CT) (k1 : List Nat → OA → AV → AV → AV → AV → AV → AV → AV → AV → AV → AV → AV → AV → AV → AV → H → R) (x_0 : List Nat) (x_8 : OA) (l2_0 l2_1 : AV) (l2_2 l2_3 : AV) (l2_4 l2_5 : AV) (l2_6 l9_0 : AV) (l9_1 l9_2 : AV) (l9_3 l9_4 : AV) (l9_5 l9_6 : AV) (h : H) : R :=
  bindR (call 28 [(.ptr x_8), (.str [112, 114, 101, 100])] h) (fun v1 h2 => onBool v1 (fun e3 => ifB e3 (bindR (call 30 [(.ptr x_8)] h2) (fun v4 h5 => onAgR v4 (fun l14 => row8 (fun x6 x7 x8 x9 x10 x11 x12 x13 => guardB (sameAV l9_1 l9_1) (onSlice l9_1 (fun a15 n16 c17 => appL h5 8 a15 n16 c17 1 [x6, x7, x8, x9, x10, x11, x12, x13] (fun a18 n19 c20 h21 => k1 x_0 x_8 l2_0 l2_1 l2_2 l2_3 l2_4 l2_5 l2_6 l9_0 (.slice a18 n19 c20) l9_2 l9_3 l9_4 l9_5 l9_6 h21)))) l14))) (bindR (call 31 [(.ptr x_8)] h2) (fun v22 h23 => onSlice v22 (fun a24 n25 c26 => guardB (sameAV l9_0 l9_0) (onSlice l9_0 (fun a27 n28 c29 => srcK h23 3 a24 n25 (fun l30 => appL h23 3 a27 n28 c29 n25 l30 (fun a31 n32 c33 h34 => k1 x_0 x_8 l2_0 l2_1 l2_2 l2_3 l2_4 l2_5 l2_6 (.slice a31 n32 c33) l9_1 l9_2 l9_3 l9_4 l9_5 l9_6 h34)))))))))
def S14_3 (call : CT) (k2 : List Nat → OA → AV → AV → AV → AV → AV → AV → AV → AV → AV → AV → AV → AV → AV → AV → H → R) (k4 : List Nat → OA → AV → AV → AV → AV → AV → AV → AV → AV → AV → AV → AV → AV → AV → AV → H → R) (x_0 : List Nat) (x_8 : OA) (x_38 : Bool) (l2_0 l2_1 : AV) (l2_2 l2_3 : AV) (l2_4 l2_5 : AV) (l2_6 l9_0 : AV) (l9_1 l9_2 : AV) (l9_3 l9_4 : AV) (l9_5 l9_6 : AV) (h : H) : R :=
  ifB x_38 (k2 x_0 x_8 l2_0 l2_1 l2_2 l2_3 l2_4 l2_5 l2_6 l9_0 l9_1 l9_2 l9_3 l9_4 l9_5 l9_6 h) (bindR (call 32 [(.ptr x_8), (.int .i64 (Int.ofNat 0))] h) (fun v1 h2 => onAgR v1 (fun l8 => row5 (fun x3 x4 x5 x6 x7 => bindR (call 33 [(.ptr x_8), (.str [59])] h2) (fun v9 h10 => bindR (call 34 [(.ptr x_8)] h10) (fun v11 h12 => onAgR v11 (fun l17 => row4 (fun x13 x14 x15 x16 => onInt .i64 x13 (fun i18 => ifB (!eqI i18 (Int.ofNat 4)) (bindR (call 34 [(.ptr x_8)] h12) (fun v19 h20 => onAgR v19 (fun l25 => row4 (fun x21 x22 x23 x24 => onInt .i64 x24 (fun i26 => bindR (call 35 [(.ptr x_8), (.int .i64 i26), (.int .i64 (Int.ofNat 2))] h20) (fun v27 h28 => k4 x_0 x_8 l2_0 l2_1 l2_2 l2_3 l2_4 l2_5 l2_6 l9_0 l9_1 x3 x4 x5 x6 x7 h28))) l25))) (k4 x_0 x_8 l2_0 l2_1 l2_2 l2_3 l2_4 l2_5 l2_6 l9_0 l9_1 x3 x4 x5 x6 x7 h12))) l17)))) l8)))
def S14_4 (call : CT) (x_0 : List Nat) (x_8 : OA) (l2_0 l2_1 : AV) (l2_2 l2_3 : AV) (l2_4 l2_5 : AV) (l2_6 l9_0 : AV) (l9_1 l9_2 : AV) (l9_3 l9_4 : AV) (l9_5 l9_6 : AV) (h : H) : R :=
  onSome x_8 (fun b1 o2 => ldK h b1 (o2 + 2) 1 (one (fun v3 => onInt .i64 v3 (fun i4 => ifB (!eqI i4 (Int.ofNat 0)) (onSome x_8 (fun b5 o6 => ldK h b5 (o6 + 3) 1 (one (fun v7 => ldK h b5 (o6 + 3) 1 (one (fun v8 => guardB (sameAV v7 v8) (onInt .i64 v7 (fun i9 => onSome x_8 (fun b10 o11 => ldK h b10 (o11 + 2) 1 (one (fun v12 => ldK h b10 (o11 + 2) 1 (one (fun v13 => guardB (sameAV v12 v13) (onInt .i64 v12 (fun i14 => some (.tuple [(.agg [(.slice none 0 (some 0)), (.slice none 0 (some 0)), (.str []), (.str []), (.int .i64 (Int.ofNat 0)), (.int .i64 (Int.ofNat 0)), (.slice none 0 (some 0))]), (.int .i64 i9), (.int .i64 i14)], h)))))))))))))))) (some (.tuple [(.agg [l9_0, l9_1, l9_2, l9_3, l9_4, l9_5, l9_6]), (.int .i64 (Int.ofNat (x_0).length)), (.int .i64 (Int.ofNat 0))], h))))))
def S14_0 (call : CT) (k1 : List Nat → OA → AV → AV → AV → AV → AV → AV → AV → AV → AV → AV → AV → AV → AV → AV → H → R) (y0 : AV) (h : H) : R :=
  onStr y0 (fun s1 => bindR (call 27 [(.str s1)] h) (fun v2 h3 => onTuple v2 0 (fun v4 => onSlice v4 (fun a5 n6 c7 => onTuple v2 1 (fun v8 => onInt .i64 v8 (fun i9 => onTuple v2 2 (fun v10 => onInt .i64 v10 (fun i11 => ifB (!eqI i11 (Int.ofNat 0)) (some (.tuple [(.agg [(.slice none 0 (some 0)), (.slice none 0 (some 0)), (.str []), (.str []), (.int .i64 (Int.ofNat 0)), (.int .i64 (Int.ofNat 0)), (.slice none 0 (some 0))]), (.int .i64 i9), (.int .i64 i11)], h3)) (newK h3 [(.slice a5 n6 c7), (.int .i64 (Int.ofNat 0)), (.int .i64 (Int.ofNat 0)), (.int .i64 (Int.ofNat 0))] (fun b12 h13 => k1 s1 (some (b12, 0)) (.slice none 0 (some 0)) (.slice none 0 (some 0)) (.str []) (.str []) (.int .i64 (Int.ofNat 0)) (.int .i64 (Int.ofNat 0)) (.slice none 0 (some 0)) (.slice none 0 (some 0)) (.slice none 0 (some 0)) (.str []) (.str []) (.int .i64 (Int.ofNat 0)) (.int .i64 (Int.ofNat 0)) (.slice none 0 (some 0)) h13))))))))))
def C14_2 (N : Nat) (call : CT) (k1 : List Nat → OA → AV → AV → AV → AV → AV → AV → AV → AV → AV → AV → AV → AV → AV → AV → H → R) : List Nat → OA → AV → AV → AV → AV → AV → AV → AV → AV → AV → AV → AV → AV → AV → AV → H → R := S14_2 call k1
def C14_4 (N : Nat) (call : CT) : List Nat → OA → AV → AV → AV → AV → AV → AV → AV → AV → AV → AV → AV → AV → AV → AV → H → R := S14_4 call
def C14_3 (N : Nat) (call : CT) (k1 : List Nat → OA → AV → AV → AV → AV → AV → AV → AV → AV → AV → AV → AV → AV → AV → AV → H → R) : List Nat → OA → Bool → AV → AV → AV → AV → AV → AV → AV → AV → AV → AV → AV → AV → AV → AV → H → R := S14_3 call (C14_2 N call k1) (C14_4 N call)
def B14_1 (N : Nat) (call : CT) (ih : List Nat → OA → AV → AV → AV → AV → AV → AV → AV → AV → AV → AV → AV → AV → AV → AV → H → R) : List Nat → OA → AV → AV → AV → AV → AV → AV → AV → AV → AV → AV → AV → AV → AV → AV → H → R := S14_1 call (C14_3 N call ih)
def I14_1 (N : Nat) (call : CT) (n : Nat) : List Nat → OA → AV → AV → AV → AV → AV → AV → AV → AV → AV → AV → AV → AV → AV → AV → H → R := Nat.rec (motive := fun _ => List Nat → OA → AV → AV → AV → AV → AV → AV → AV → AV → AV → AV → AV → AV → AV → AV → H → R) (fun _ _ _ _ _ _ _ _ _ _ _ _ _ _ _ _ _ => none) (fun _ ih => B14_1 N call ih) n
def C14_1 (N : Nat) (call : CT) : List Nat → OA → AV → AV → AV → AV → AV → AV → AV → AV → AV → AV → AV → AV → AV → AV → H → R := I14_1 N call N
def S14 (N : Nat) (call : CT) (y0 : AV) (h : H) : R := S14_0 call (C14_1 N call) y0 h
def T14_1 (x_0 : List Nat) (x_8 : OA) (l2_0 l2_1 : AV) (l2_2 l2_3 : AV) (l2_4 l2_5 : AV) (l2_6 l9_0 : AV) (l9_1 l9_2 : AV) (l9_3 l9_4 : AV) (l9_5 l9_6 : AV) : LF := [(some (.v (.str x_0))), none, (some (.lptr 2 0)), oo, oo, oo, oo, oo, (some (.v (.ptr x_8))), (some (.lptr 9 0)), oo, oo, oo, oo, oo, oo, oo, oo, oo, oo, oo, oo, oo, oo, oo, oo, oo, oo, oo, oo, oo, oo, oo, oo, oo, oo, oo, oo, oo, oo, oo, oo, oo, oo, oo, oo, oo, oo, oo, oo, oo, oo, oo, oo, oo, oo, oo, oo, oo, oo, oo, oo, oo, oo, oo, oo, oo, oo, oo, oo, oo, oo, oo, oo, oo, oo, oo, oo, oo, oo, oo, oo, oo, oo, oo]
def L14_1 (x_0 : List Nat) (x_8 : OA) (l2_0 l2_1 : AV) (l2_2 l2_3 : AV) (l2_4 l2_5 : AV) (l2_6 l9_0 : AV) (l9_1 l9_2 : AV) (l9_3 l9_4 : AV) (l9_5 l9_6 : AV) : LL := [none, none, (some (.cells [l2_0, l2_1, l2_2, l2_3, l2_4, l2_5, l2_6])), oo, oo, oo, oo, oo, oo, (some (.cells [l9_0, l9_1, l9_2, l9_3, l9_4, l9_5, l9_6])), oo, oo, oo, oo, oo, oo, oo, oo, oo, oo, oo, oo, oo, oo, oo, oo, oo, oo, oo, oo, oo, oo, oo, oo, oo, oo, oo, oo, oo, oo, oo, oo, oo, oo, oo, oo, oo, oo, oo, oo, oo, oo, oo, oo, oo, oo, oo, oo, oo, oo, oo, oo, oo, oo, oo, oo, oo, oo, oo, oo, oo, oo, oo, oo, oo, oo, oo, oo, oo, oo, oo, oo, oo, oo, oo]
def T14_2 (x_0 : List Nat) (x_8 : OA) (l2_0 l2_1 : AV) (l2_2 l2_3 : AV) (l2_4 l2_5 : AV) (l2_6 l9_0 : AV) (l9_1 l9_2 : AV) (l9_3 l9_4 : AV) (l9_5 l9_6 : AV) : LF := [(some (.v (.str x_0))), none, (some (.lptr 2 0)), oo, oo, oo, oo, oo, (some (.v (.ptr x_8))), (some (.lptr 9 0)), oo, oo, oo, oo, oo, oo, oo, oo, oo, oo, oo, oo, oo, oo, oo, oo, oo, oo, oo, oo, oo, oo, oo, oo, oo, oo, oo, oo, oo, oo, oo, oo, oo, oo, oo, oo, oo, oo, oo, oo, oo, oo, oo, oo, oo, oo, oo, oo, oo, oo, oo, oo, oo, oo, oo, oo, oo, oo, oo, oo, oo, oo, oo, oo, oo, oo, oo, oo, oo, oo, oo, oo, oo, oo, oo]
def L14_2 (x_0 : List Nat) (x_8 : OA) (l2_0 l2_1 : AV) (l2_2 l2_3 : AV) (l2_4 l2_5 : AV) (l2_6 l9_0 : AV) (l9_1 l9_2 : AV) (l9_3 l9_4 : AV) (l9_5 l9_6 : AV) : LL := [none, none, (some (.cells [l2_0, l2_1, l2_2, l2_3, l2_4, l2_5, l2_6])), oo, oo, oo, oo, oo, oo, (some (.cells [l9_0, l9_1, l9_2, l9_3, l9_4, l9_5, l9_6])), oo, oo, oo, oo, oo, oo, oo, oo, oo, oo, oo, oo, oo, oo, oo, oo, oo, oo, oo, oo, oo, oo, oo, oo, oo, oo, oo, oo, oo, oo, oo, oo, oo, oo, oo, oo, oo, oo, oo, oo, oo, oo, oo, oo, oo, oo, oo, oo, oo, oo, oo, oo, oo, oo, oo, oo, oo, oo, oo, oo, oo, oo, oo, oo, oo, oo, oo, oo, oo, oo, oo, oo, oo, oo, oo]
def T14_3 (x_0 : List Nat) (x_8 : OA) (x_38 : Bool) (l2_0 l2_1 : AV) (l2_2 l2_3 : AV) (l2_4 l2_5 : AV) (l2_6 l9_0 : AV) (l9_1 l9_2 : AV) (l9_3 l9_4 : AV) (l9_5 l9_6 : AV) : LF := [(some (.v (.str x_0))), none, (some (.lptr 2 0)), oo, oo, oo, oo, oo, (some (.v (.ptr x_8))), (some (.lptr 9 0)), oo, oo, oo, oo, oo, oo, oo, oo, oo, oo, oo, oo, oo, oo, oo, oo, oo, oo, oo, oo, oo, oo, oo, oo, oo, oo, oo, oo, (some (.v (.bool x_38))), oo, oo, oo, oo, oo, oo, oo, oo, oo, oo, oo, oo, oo, oo, oo, oo, oo, oo, oo, oo, oo, oo, oo, oo, oo, oo, oo, oo, oo, oo, oo, oo, oo, oo, oo, oo, oo, oo, oo, oo, oo, oo, oo, oo, oo, oo]
def L14_3 (x_0 : List Nat) (x_8 : OA) (x_38 : Bool) (l2_0 l2_1 : AV) (l2_2 l2_3 : AV) (l2_4 l2_5 : AV) (l2_6 l9_0 : AV) (l9_1 l9_2 : AV) (l9_3 l9_4 : AV) (l9_5 l9_6 : AV) : LL := [none, none, (some (.cells [l2_0, l2_1, l2_2, l2_3, l2_4, l2_5, l2_6])), oo, oo, oo, oo, oo, oo, (some (.cells [l9_0, l9_1, l9_2, l9_3, l9_4, l9_5, l9_6])), oo, oo, oo, oo, oo, oo, oo, oo, oo, oo, oo, oo, oo, oo, oo, oo, oo, oo, oo, oo, oo, oo, oo, oo, oo, oo, oo, oo, oo, oo, oo, oo, oo, oo, oo, oo, oo, oo, oo, oo, oo, oo, oo, oo, oo, oo, oo, oo, oo, oo, oo, oo, oo, oo, oo, oo, oo, oo, oo, oo, oo, oo, oo, oo, oo, oo, oo, oo, oo, oo, oo, oo, oo, oo, oo]
def T14_4 (x_0 : List Nat) (x_8 : OA) (l2_0 l2_1 : AV) (l2_2 l2_3 : AV) (l2_4 l2_5 : AV) (l2_6 l9_0 : AV) (l9_1 l9_2 : AV) (l9_3 l9_4 : AV) (l9_5 l9_6 : AV) : LF := [(some (.v (.str x_0))), none, (some (.lptr 2 0)), oo, oo, oo, oo, oo, (some (.v (.ptr x_8))), (some (.lptr 9 0)), oo, oo, oo, oo, oo, oo, oo, oo, oo, oo, oo, oo, oo, oo, oo, oo, oo, oo, oo, oo, oo, oo, oo, oo, oo, oo, oo, oo, oo, oo, oo, oo, oo, oo, oo, oo, oo, oo, oo, oo, oo, oo, oo, oo, oo, oo, oo, oo, oo, oo, oo, oo, oo, oo, oo, oo, oo, oo, oo, oo, oo, oo, oo, oo, oo, oo, oo, oo, oo, oo, oo, oo, oo, oo, oo]
def L14_4 (x_0 : List Nat) (x_8 : OA) (l2_0 l2_1 : AV) (l2_2 l2_3 : AV) (l2_4 l2_5 : AV) (l2_6 l9_0 : AV) (l9_1 l9_2 : AV) (l9_3 l9_4 : AV) (l9_5 l9_6 : AV) : LL := [none, none, (some (.cells [l2_0, l2_1, l2_2, l2_3, l2_4, l2_5, l2_6])), oo, oo, oo, oo, oo, oo, (some (.cells [l9_0, l9_1, l9_2, l9_3, l9_4, l9_5, l9_6])), oo, oo, oo, oo, oo, oo, oo, oo, oo, oo, oo, oo, oo, oo, oo, oo, oo, oo, oo, oo, oo, oo, oo, oo, oo, oo, oo, oo, oo, oo, oo, oo, oo, oo, oo, oo, oo, oo, oo, oo, oo, oo, oo, oo, oo, oo, oo, oo, oo, oo, oo, oo, oo, oo, oo, oo, oo, oo, oo, oo, oo, oo, oo, oo, oo, oo, oo, oo, oo, oo, oo, oo, oo, oo, oo]
theorem R14_2 (N : Nat) (call : CT) (D1 : K3) (x_0 : List Nat) (x_8 : OA) (l2_0 l2_1 : AV) (l2_2 l2_3 : AV) (l2_4 l2_5 : AV) (l2_6 l9_0 : AV) (l9_1 l9_2 : AV) (l9_3 l9_4 : AV) (l9_5 l9_6 : AV) (h : H) : E14_2 N call D1 (T14_2 x_0 x_8 l2_0 l2_1 l2_2 l2_3 l2_4 l2_5 l2_6 l9_0 l9_1 l9_2 l9_3 l9_4 l9_5 l9_6) (L14_2 x_0 x_8 l2_0 l2_1 l2_2 l2_3 l2_4 l2_5 l2_6 l9_0 l9_1 l9_2 l9_3 l9_4 l9_5 l9_6) h = S14_2 call (fun (x_0 : List Nat) (x_8 : OA) (l2_0 l2_1 : AV) (l2_2 l2_3 : AV) (l2_4 l2_5 : AV) (l2_6 l9_0 : AV) (l9_1 l9_2 : AV) (l9_3 l9_4 : AV) (l9_5 l9_6 : AV) h => D1 (T14_1 x_0 x_8 l2_0 l2_1 l2_2 l2_3 l2_4 l2_5 l2_6 l9_0 l9_1 l9_2 l9_3 l9_4 l9_5 l9_6) (L14_1 x_0 x_8 l2_0 l2_1 l2_2 l2_3 l2_4 l2_5 l2_6 l9_0 l9_1 l9_2 l9_3 l9_4 l9_5 l9_6) h) x_0 x_8 l2_0 l2_1 l2_2 l2_3 l2_4 l2_5 l2_6 l9_0 l9_1 l9_2 l9_3 l9_4 l9_5 l9_6 h := by kernel_rfl
theorem Z14_2 (N : Nat) (call : CT) (D1 : K3) (x_0 : List Nat) (x_8 : OA) (l2_0 l2_1 : AV) (l2_2 l2_3 : AV) (l2_4 l2_5 : AV) (l2_6 l9_0 : AV) (l9_1 l9_2 : AV) (l9_3 l9_4 : AV) (l9_5 l9_6 : AV) (h : H) : E14_2 N call D1 (T14_2 x_0 x_8 l2_0 l2_1 l2_2 l2_3 l2_4 l2_5 l2_6 l9_0 l9_1 l9_2 l9_3 l9_4 l9_5 l9_6) (L14_2 x_0 x_8 l2_0 l2_1 l2_2 l2_3 l2_4 l2_5 l2_6 l9_0 l9_1 l9_2 l9_3 l9_4 l9_5 l9_6) h = C14_2 N call (fun (x_0 : List Nat) (x_8 : OA) (l2_0 l2_1 : AV) (l2_2 l2_3 : AV) (l2_4 l2_5 : AV) (l2_6 l9_0 : AV) (l9_1 l9_2 : AV) (l9_3 l9_4 : AV) (l9_5 l9_6 : AV) h => D1 (T14_1 x_0 x_8 l2_0 l2_1 l2_2 l2_3 l2_4 l2_5 l2_6 l9_0 l9_1 l9_2 l9_3 l9_4 l9_5 l9_6) (L14_1 x_0 x_8 l2_0 l2_1 l2_2 l2_3 l2_4 l2_5 l2_6 l9_0 l9_1 l9_2 l9_3 l9_4 l9_5 l9_6) h) x_0 x_8 l2_0 l2_1 l2_2 l2_3 l2_4 l2_5 l2_6 l9_0 l9_1 l9_2 l9_3 l9_4 l9_5 l9_6 h := by
  have r := R14_2 N call D1 x_0 x_8 l2_0 l2_1 l2_2 l2_3 l2_4 l2_5 l2_6 l9_0 l9_1 l9_2 l9_3 l9_4 l9_5 l9_6 h
  have z : S14_2 call (fun (x_0 : List Nat) (x_8 : OA) (l2_0 l2_1 : AV) (l2_2 l2_3 : AV) (l2_4 l2_5 : AV) (l2_6 l9_0 : AV) (l9_1 l9_2 : AV) (l9_3 l9_4 : AV) (l9_5 l9_6 : AV) h => D1 (T14_1 x_0 x_8 l2_0 l2_1 l2_2 l2_3 l2_4 l2_5 l2_6 l9_0 l9_1 l9_2 l9_3 l9_4 l9_5 l9_6) (L14_1 x_0 x_8 l2_0 l2_1 l2_2 l2_3 l2_4 l2_5 l2_6 l9_0 l9_1 l9_2 l9_3 l9_4 l9_5 l9_6) h) x_0 x_8 l2_0 l2_1 l2_2 l2_3 l2_4 l2_5 l2_6 l9_0 l9_1 l9_2 l9_3 l9_4 l9_5 l9_6 h = C14_2 N call (fun (x_0 : List Nat) (x_8 : OA) (l2_0 l2_1 : AV) (l2_2 l2_3 : AV) (l2_4 l2_5 : AV) (l2_6 l9_0 : AV) (l9_1 l9_2 : AV) (l9_3 l9_4 : AV) (l9_5 l9_6 : AV) h => D1 (T14_1 x_0 x_8 l2_0 l2_1 l2_2 l2_3 l2_4 l2_5 l2_6 l9_0 l9_1 l9_2 l9_3 l9_4 l9_5 l9_6) (L14_1 x_0 x_8 l2_0 l2_1 l2_2 l2_3 l2_4 l2_5 l2_6 l9_0 l9_1 l9_2 l9_3 l9_4 l9_5 l9_6) h) x_0 x_8 l2_0 l2_1 l2_2 l2_3 l2_4 l2_5 l2_6 l9_0 l9_1 l9_2 l9_3 l9_4 l9_5 l9_6 h := by kernel_rfl
  exact r.trans z
theorem R14_4 (N : Nat) (call : CT) (x_0 : List Nat) (x_8 : OA) (l2_0 l2_1 : AV) (l2_2 l2_3 : AV) (l2_4 l2_5 : AV) (l2_6 l9_0 : AV) (l9_1 l9_2 : AV) (l9_3 l9_4 : AV) (l9_5 l9_6 : AV) (h : H) : E14_4 N call (T14_4 x_0 x_8 l2_0 l2_1 l2_2 l2_3 l2_4 l2_5 l2_6 l9_0 l9_1 l9_2 l9_3 l9_4 l9_5 l9_6) (L14_4 x_0 x_8 l2_0 l2_1 l2_2 l2_3 l2_4 l2_5 l2_6 l9_0 l9_1 l9_2 l9_3 l9_4 l9_5 l9_6) h = S14_4 call x_0 x_8 l2_0 l2_1 l2_2 l2_3 l2_4 l2_5 l2_6 l9_0 l9_1 l9_2 l9_3 l9_4 l9_5 l9_6 h := by kernel_rfl
theorem Z14_4 (N : Nat) (call : CT) (x_0 : List Nat) (x_8 : OA) (l2_0 l2_1 : AV) (l2_2 l2_3 : AV) (l2_4 l2_5 : AV) (l2_6 l9_0 : AV) (l9_1 l9_2 : AV) (l9_3 l9_4 : AV) (l9_5 l9_6 : AV) (h : H) : E14_4 N call (T14_4 x_0 x_8 l2_0 l2_1 l2_2 l2_3 l2_4 l2_5 l2_6 l9_0 l9_1 l9_2 l9_3 l9_4 l9_5 l9_6) (L14_4 x_0 x_8 l2_0 l2_1 l2_2 l2_3 l2_4 l2_5 l2_6 l9_0 l9_1 l9_2 l9_3 l9_4 l9_5 l9_6) h = C14_4 N call x_0 x_8 l2_0 l2_1 l2_2 l2_3 l2_4 l2_5 l2_6 l9_0 l9_1 l9_2 l9_3 l9_4 l9_5 l9_6 h := by
  have r := R14_4 N call x_0 x_8 l2_0 l2_1 l2_2 l2_3 l2_4 l2_5 l2_6 l9_0 l9_1 l9_2 l9_3 l9_4 l9_5 l9_6 h
  have z : S14_4 call x_0 x_8 l2_0 l2_1 l2_2 l2_3 l2_4 l2_5 l2_6 l9_0 l9_1 l9_2 l9_3 l9_4 l9_5 l9_6 h = C14_4 N call x_0 x_8 l2_0 l2_1 l2_2 l2_3 l2_4 l2_5 l2_6 l9_0 l9_1 l9_2 l9_3 l9_4 l9_5 l9_6 h := by kernel_rfl
  exact r.trans z
theorem R14_3 (N : Nat) (call : CT) (D1 : K3) (x_0 : List Nat) (x_8 : OA) (x_38 : Bool) (l2_0 l2_1 : AV) (l2_2 l2_3 : AV) (l2_4 l2_5 : AV) (l2_6 l9_0 : AV) (l9_1 l9_2 : AV) (l9_3 l9_4 : AV) (l9_5 l9_6 : AV) (h : H) : E14_3 N call D1 (T14_3 x_0 x_8 x_38 l2_0 l2_1 l2_2 l2_3 l2_4 l2_5 l2_6 l9_0 l9_1 l9_2 l9_3 l9_4 l9_5 l9_6) (L14_3 x_0 x_8 x_38 l2_0 l2_1 l2_2 l2_3 l2_4 l2_5 l2_6 l9_0 l9_1 l9_2 l9_3 l9_4 l9_5 l9_6) h = S14_3 call (fun (x_0 : List Nat) (x_8 : OA) (l2_0 l2_1 : AV) (l2_2 l2_3 : AV) (l2_4 l2_5 : AV) (l2_6 l9_0 : AV) (l9_1 l9_2 : AV) (l9_3 l9_4 : AV) (l9_5 l9_6 : AV) h => (E14_2 N call D1) (T14_2 x_0 x_8 l2_0 l2_1 l2_2 l2_3 l2_4 l2_5 l2_6 l9_0 l9_1 l9_2 l9_3 l9_4 l9_5 l9_6) (L14_2 x_0 x_8 l2_0 l2_1 l2_2 l2_3 l2_4 l2_5 l2_6 l9_0 l9_1 l9_2 l9_3 l9_4 l9_5 l9_6) h) (fun (x_0 : List Nat) (x_8 : OA) (l2_0 l2_1 : AV) (l2_2 l2_3 : AV) (l2_4 l2_5 : AV) (l2_6 l9_0 : AV) (l9_1 l9_2 : AV) (l9_3 l9_4 : AV) (l9_5 l9_6 : AV) h => (E14_4 N call) (T14_4 x_0 x_8 l2_0 l2_1 l2_2 l2_3 l2_4 l2_5 l2_6 l9_0 l9_1 l9_2 l9_3 l9_4 l9_5 l9_6) (L14_4 x_0 x_8 l2_0 l2_1 l2_2 l2_3 l2_4 l2_5 l2_6 l9_0 l9_1 l9_2 l9_3 l9_4 l9_5 l9_6) h) x_0 x_8 x_38 l2_0 l2_1 l2_2 l2_3 l2_4 l2_5 l2_6 l9_0 l9_1 l9_2 l9_3 l9_4 l9_5 l9_6 h := by kernel_rfl
theorem Z14_3 (N : Nat) (call : CT) (D1 : K3) (x_0 : List Nat) (x_8 : OA) (x_38 : Bool) (l2_0 l2_1 : AV) (l2_2 l2_3 : AV) (l2_4 l2_5 : AV) (l2_6 l9_0 : AV) (l9_1 l9_2 : AV) (l9_3 l9_4 : AV) (l9_5 l9_6 : AV) (h : H) : E14_3 N call D1 (T14_3 x_0 x_8 x_38 l2_0 l2_1 l2_2 l2_3 l2_4 l2_5 l2_6 l9_0 l9_1 l9_2 l9_3 l9_4 l9_5 l9_6) (L14_3 x_0 x_8 x_38 l2_0 l2_1 l2_2 l2_3 l2_4 l2_5 l2_6 l9_0 l9_1 l9_2 l9_3 l9_4 l9_5 l9_6) h = C14_3 N call (fun (x_0 : List Nat) (x_8 : OA) (l2_0 l2_1 : AV) (l2_2 l2_3 : AV) (l2_4 l2_5 : AV) (l2_6 l9_0 : AV) (l9_1 l9_2 : AV) (l9_3 l9_4 : AV) (l9_5 l9_6 : AV) h => D1 (T14_1 x_0 x_8 l2_0 l2_1 l2_2 l2_3 l2_4 l2_5 l2_6 l9_0 l9_1 l9_2 l9_3 l9_4 l9_5 l9_6) (L14_1 x_0 x_8 l2_0 l2_1 l2_2 l2_3 l2_4 l2_5 l2_6 l9_0 l9_1 l9_2 l9_3 l9_4 l9_5 l9_6) h) x_0 x_8 x_38 l2_0 l2_1 l2_2 l2_3 l2_4 l2_5 l2_6 l9_0 l9_1 l9_2 l9_3 l9_4 l9_5 l9_6 h := by
  have e2 : (fun (x_0 : List Nat) (x_8 : OA) (l2_0 l2_1 : AV) (l2_2 l2_3 : AV) (l2_4 l2_5 : AV) (l2_6 l9_0 : AV) (l9_1 l9_2 : AV) (l9_3 l9_4 : AV) (l9_5 l9_6 : AV) h => (E14_2 N call D1) (T14_2 x_0 x_8 l2_0 l2_1 l2_2 l2_3 l2_4 l2_5 l2_6 l9_0 l9_1 l9_2 l9_3 l9_4 l9_5 l9_6) (L14_2 x_0 x_8 l2_0 l2_1 l2_2 l2_3 l2_4 l2_5 l2_6 l9_0 l9_1 l9_2 l9_3 l9_4 l9_5 l9_6) h) = (C14_2 N call (fun (x_0 : List Nat) (x_8 : OA) (l2_0 l2_1 : AV) (l2_2 l2_3 : AV) (l2_4 l2_5 : AV) (l2_6 l9_0 : AV) (l9_1 l9_2 : AV) (l9_3 l9_4 : AV) (l9_5 l9_6 : AV) h => D1 (T14_1 x_0 x_8 l2_0 l2_1 l2_2 l2_3 l2_4 l2_5 l2_6 l9_0 l9_1 l9_2 l9_3 l9_4 l9_5 l9_6) (L14_1 x_0 x_8 l2_0 l2_1 l2_2 l2_3 l2_4 l2_5 l2_6 l9_0 l9_1 l9_2 l9_3 l9_4 l9_5 l9_6) h)) := by
    funext x_0 x_8 l2_0 l2_1 l2_2 l2_3 l2_4 l2_5 l2_6 l9_0 l9_1 l9_2 l9_3 l9_4 l9_5 l9_6 h
    exact Z14_2 N call D1 x_0 x_8 l2_0 l2_1 l2_2 l2_3 l2_4 l2_5 l2_6 l9_0 l9_1 l9_2 l9_3 l9_4 l9_5 l9_6 h
  have e4 : (fun (x_0 : List Nat) (x_8 : OA) (l2_0 l2_1 : AV) (l2_2 l2_3 : AV) (l2_4 l2_5 : AV) (l2_6 l9_0 : AV) (l9_1 l9_2 : AV) (l9_3 l9_4 : AV) (l9_5 l9_6 : AV) h => (E14_4 N call) (T14_4 x_0 x_8 l2_0 l2_1 l2_2 l2_3 l2_4 l2_5 l2_6 l9_0 l9_1 l9_2 l9_3 l9_4 l9_5 l9_6) (L14_4 x_0 x_8 l2_0 l2_1 l2_2 l2_3 l2_4 l2_5 l2_6 l9_0 l9_1 l9_2 l9_3 l9_4 l9_5 l9_6) h) = (C14_4 N call) := by
    funext x_0 x_8 l2_0 l2_1 l2_2 l2_3 l2_4 l2_5 l2_6 l9_0 l9_1 l9_2 l9_3 l9_4 l9_5 l9_6 h
    exact Z14_4 N call x_0 x_8 l2_0 l2_1 l2_2 l2_3 l2_4 l2_5 l2_6 l9_0 l9_1 l9_2 l9_3 l9_4 l9_5 l9_6 h
  have r := R14_3 N call D1 x_0 x_8 x_38 l2_0 l2_1 l2_2 l2_3 l2_4 l2_5 l2_6 l9_0 l9_1 l9_2 l9_3 l9_4 l9_5 l9_6 h
  rw [e2, e4] at r
  have z : S14_3 call (C14_2 N call (fun (x_0 : List Nat) (x_8 : OA) (l2_0 l2_1 : AV) (l2_2 l2_3 : AV) (l2_4 l2_5 : AV) (l2_6 l9_0 : AV) (l9_1 l9_2 : AV) (l9_3 l9_4 : AV) (l9_5 l9_6 : AV) h => D1 (T14_1 x_0 x_8 l2_0 l2_1 l2_2 l2_3 l2_4 l2_5 l2_6 l9_0 l9_1 l9_2 l9_3 l9_4 l9_5 l9_6) (L14_1 x_0 x_8 l2_0 l2_1 l2_2 l2_3 l2_4 l2_5 l2_6 l9_0 l9_1 l9_2 l9_3 l9_4 l9_5 l9_6) h)) (C14_4 N call) x_0 x_8 x_38 l2_0 l2_1 l2_2 l2_3 l2_4 l2_5 l2_6 l9_0 l9_1 l9_2 l9_3 l9_4 l9_5 l9_6 h = C14_3 N call (fun (x_0 : List Nat) (x_8 : OA) (l2_0 l2_1 : AV) (l2_2 l2_3 : AV) (l2_4 l2_5 : AV) (l2_6 l9_0 : AV) (l9_1 l9_2 : AV) (l9_3 l9_4 : AV) (l9_5 l9_6 : AV) h => D1 (T14_1 x_0 x_8 l2_0 l2_1 l2_2 l2_3 l2_4 l2_5 l2_6 l9_0 l9_1 l9_2 l9_3 l9_4 l9_5 l9_6) (L14_1 x_0 x_8 l2_0 l2_1 l2_2 l2_3 l2_4 l2_5 l2_6 l9_0 l9_1 l9_2 l9_3 l9_4 l9_5 l9_6) h) x_0 x_8 x_38 l2_0 l2_1 l2_2 l2_3 l2_4 l2_5 l2_6 l9_0 l9_1 l9_2 l9_3 l9_4 l9_5 l9_6 h := by kernel_rfl
  exact r.trans z
theorem R14_1 (N : Nat) (call : CT) (self : K3) (x_0 : List Nat) (x_8 : OA) (l2_0 l2_1 : AV) (l2_2 l2_3 : AV) (l2_4 l2_5 : AV) (l2_6 l9_0 : AV) (l9_1 l9_2 : AV) (l9_3 l9_4 : AV) (l9_5 l9_6 : AV) (h : H) : F14_1 N call self (T14_1 x_0 x_8 l2_0 l2_1 l2_2 l2_3 l2_4 l2_5 l2_6 l9_0 l9_1 l9_2 l9_3 l9_4 l9_5 l9_6) (L14_1 x_0 x_8 l2_0 l2_1 l2_2 l2_3 l2_4 l2_5 l2_6 l9_0 l9_1 l9_2 l9_3 l9_4 l9_5 l9_6) h = S14_1 call (fun (x_0 : List Nat) (x_8 : OA) (x_38 : Bool) (l2_0 l2_1 : AV) (l2_2 l2_3 : AV) (l2_4 l2_5 : AV) (l2_6 l9_0 : AV) (l9_1 l9_2 : AV) (l9_3 l9_4 : AV) (l9_5 l9_6 : AV) h => (E14_3 N call self) (T14_3 x_0 x_8 x_38 l2_0 l2_1 l2_2 l2_3 l2_4 l2_5 l2_6 l9_0 l9_1 l9_2 l9_3 l9_4 l9_5 l9_6) (L14_3 x_0 x_8 x_38 l2_0 l2_1 l2_2 l2_3 l2_4 l2_5 l2_6 l9_0 l9_1 l9_2 l9_3 l9_4 l9_5 l9_6) h) x_0 x_8 l2_0 l2_1 l2_2 l2_3 l2_4 l2_5 l2_6 l9_0 l9_1 l9_2 l9_3 l9_4 l9_5 l9_6 h := by kernel_rfl
theorem Q14_1 (N : Nat) (call : CT) (n : Nat) : ∀ (x_0 : List Nat) (x_8 : OA) (l2_0 l2_1 : AV) (l2_2 l2_3 : AV) (l2_4 l2_5 : AV) (l2_6 l9_0 : AV) (l9_1 l9_2 : AV) (l9_3 l9_4 : AV) (l9_5 l9_6 : AV) (h : H), (iter (F14_1 N call) n) (T14_1 x_0 x_8 l2_0 l2_1 l2_2 l2_3 l2_4 l2_5 l2_6 l9_0 l9_1 l9_2 l9_3 l9_4 l9_5 l9_6) (L14_1 x_0 x_8 l2_0 l2_1 l2_2 l2_3 l2_4 l2_5 l2_6 l9_0 l9_1 l9_2 l9_3 l9_4 l9_5 l9_6) h = I14_1 N call n x_0 x_8 l2_0 l2_1 l2_2 l2_3 l2_4 l2_5 l2_6 l9_0 l9_1 l9_2 l9_3 l9_4 l9_5 l9_6 h := by
  induction n with
  | zero => intros; exact (iter_zero _ _ _ _).trans (by kernel_rfl)
  | succ n ih =>
    intro x_0 x_8 l2_0 l2_1 l2_2 l2_3 l2_4 l2_5 l2_6 l9_0 l9_1 l9_2 l9_3 l9_4 l9_5 l9_6 h
    have e0 : (fun (x_0 : List Nat) (x_8 : OA) (l2_0 l2_1 : AV) (l2_2 l2_3 : AV) (l2_4 l2_5 : AV) (l2_6 l9_0 : AV) (l9_1 l9_2 : AV) (l9_3 l9_4 : AV) (l9_5 l9_6 : AV) h => (iter (F14_1 N call) n) (T14_1 x_0 x_8 l2_0 l2_1 l2_2 l2_3 l2_4 l2_5 l2_6 l9_0 l9_1 l9_2 l9_3 l9_4 l9_5 l9_6) (L14_1 x_0 x_8 l2_0 l2_1 l2_2 l2_3 l2_4 l2_5 l2_6 l9_0 l9_1 l9_2 l9_3 l9_4 l9_5 l9_6) h) = (I14_1 N call n) := by funext x_0 x_8 l2_0 l2_1 l2_2 l2_3 l2_4 l2_5 l2_6 l9_0 l9_1 l9_2 l9_3 l9_4 l9_5 l9_6 h; exact ih x_0 x_8 l2_0 l2_1 l2_2 l2_3 l2_4 l2_5 l2_6 l9_0 l9_1 l9_2 l9_3 l9_4 l9_5 l9_6 h
    have e3 : (fun (x_0 : List Nat) (x_8 : OA) (x_38 : Bool) (l2_0 l2_1 : AV) (l2_2 l2_3 : AV) (l2_4 l2_5 : AV) (l2_6 l9_0 : AV) (l9_1 l9_2 : AV) (l9_3 l9_4 : AV) (l9_5 l9_6 : AV) h => (E14_3 N call (iter (F14_1 N call) n)) (T14_3 x_0 x_8 x_38 l2_0 l2_1 l2_2 l2_3 l2_4 l2_5 l2_6 l9_0 l9_1 l9_2 l9_3 l9_4 l9_5 l9_6) (L14_3 x_0 x_8 x_38 l2_0 l2_1 l2_2 l2_3 l2_4 l2_5 l2_6 l9_0 l9_1 l9_2 l9_3 l9_4 l9_5 l9_6) h) = (C14_3 N call (I14_1 N call n)) := by
      funext x_0 x_8 x_38 l2_0 l2_1 l2_2 l2_3 l2_4 l2_5 l2_6 l9_0 l9_1 l9_2 l9_3 l9_4 l9_5 l9_6 h
      have q := Z14_3 N call (iter (F14_1 N call) n) x_0 x_8 x_38 l2_0 l2_1 l2_2 l2_3 l2_4 l2_5 l2_6 l9_0 l9_1 l9_2 l9_3 l9_4 l9_5 l9_6 h
      rw [e0] at q
      exact q
    have r := R14_1 N call (iter (F14_1 N call) n) x_0 x_8 l2_0 l2_1 l2_2 l2_3 l2_4 l2_5 l2_6 l9_0 l9_1 l9_2 l9_3 l9_4 l9_5 l9_6 h
    rw [e3] at r
    have g := iter_succ (F14_1 N call) n (T14_1 x_0 x_8 l2_0 l2_1 l2_2 l2_3 l2_4 l2_5 l2_6 l9_0 l9_1 l9_2 l9_3 l9_4 l9_5 l9_6) (L14_1 x_0 x_8 l2_0 l2_1 l2_2 l2_3 l2_4 l2_5 l2_6 l9_0 l9_1 l9_2 l9_3 l9_4 l9_5 l9_6) h
    have z : S14_1 call (C14_3 N call (I14_1 N call n)) x_0 x_8 l2_0 l2_1 l2_2 l2_3 l2_4 l2_5 l2_6 l9_0 l9_1 l9_2 l9_3 l9_4 l9_5 l9_6 h = I14_1 N call (n + 1) x_0 x_8 l2_0 l2_1 l2_2 l2_3 l2_4 l2_5 l2_6 l9_0 l9_1 l9_2 l9_3 l9_4 l9_5 l9_6 h := by kernel_rfl
    exact g.trans (r.trans z)
theorem Z14_1 (N : Nat) (call : CT) (x_0 : List Nat) (x_8 : OA) (l2_0 l2_1 : AV) (l2_2 l2_3 : AV) (l2_4 l2_5 : AV) (l2_6 l9_0 : AV) (l9_1 l9_2 : AV) (l9_3 l9_4 : AV) (l9_5 l9_6 : AV) (h : H) : (E14_1 N call) (T14_1 x_0 x_8 l2_0 l2_1 l2_2 l2_3 l2_4 l2_5 l2_6 l9_0 l9_1 l9_2 l9_3 l9_4 l9_5 l9_6) (L14_1 x_0 x_8 l2_0 l2_1 l2_2 l2_3 l2_4 l2_5 l2_6 l9_0 l9_1 l9_2 l9_3 l9_4 l9_5 l9_6) h = C14_1 N call x_0 x_8 l2_0 l2_1 l2_2 l2_3 l2_4 l2_5 l2_6 l9_0 l9_1 l9_2 l9_3 l9_4 l9_5 l9_6 h := by
  have g : (E14_1 N call) (T14_1 x_0 x_8 l2_0 l2_1 l2_2 l2_3 l2_4 l2_5 l2_6 l9_0 l9_1 l9_2 l9_3 l9_4 l9_5 l9_6) (L14_1 x_0 x_8 l2_0 l2_1 l2_2 l2_3 l2_4 l2_5 l2_6 l9_0 l9_1 l9_2 l9_3 l9_4 l9_5 l9_6) h = iter (F14_1 N call) N (T14_1 x_0 x_8 l2_0 l2_1 l2_2 l2_3 l2_4 l2_5 l2_6 l9_0 l9_1 l9_2 l9_3 l9_4 l9_5 l9_6) (L14_1 x_0 x_8 l2_0 l2_1 l2_2 l2_3 l2_4 l2_5 l2_6 l9_0 l9_1 l9_2 l9_3 l9_4 l9_5 l9_6) h := by kernel_rfl
  have z : I14_1 N call N x_0 x_8 l2_0 l2_1 l2_2 l2_3 l2_4 l2_5 l2_6 l9_0 l9_1 l9_2 l9_3 l9_4 l9_5 l9_6 h = C14_1 N call x_0 x_8 l2_0 l2_1 l2_2 l2_3 l2_4 l2_5 l2_6 l9_0 l9_1 l9_2 l9_3 l9_4 l9_5 l9_6 h := by kernel_rfl
  exact g.trans ((Q14_1 N call N x_0 x_8 l2_0 l2_1 l2_2 l2_3 l2_4 l2_5 l2_6 l9_0 l9_1 l9_2 l9_3 l9_4 l9_5 l9_6 h).trans z)
theorem R14_0 (N : Nat) (call : CT) (y0 : AV) (h : H) : body Tryz.prog N call Tryz.f14 A14.an [y0] h = S14_0 call (fun (x_0 : List Nat) (x_8 : OA) (l2_0 l2_1 : AV) (l2_2 l2_3 : AV) (l2_4 l2_5 : AV) (l2_6 l9_0 : AV) (l9_1 l9_2 : AV) (l9_3 l9_4 : AV) (l9_5 l9_6 : AV) h => (E14_1 N call) (T14_1 x_0 x_8 l2_0 l2_1 l2_2 l2_3 l2_4 l2_5 l2_6 l9_0 l9_1 l9_2 l9_3 l9_4 l9_5 l9_6) (L14_1 x_0 x_8 l2_0 l2_1 l2_2 l2_3 l2_4 l2_5 l2_6 l9_0 l9_1 l9_2 l9_3 l9_4 l9_5 l9_6) h) y0 h := by kernel_rfl
theorem Z14 (N : Nat) (call : CT) (y0 : AV) (h : H) : body Tryz.prog N call Tryz.f14 A14.an [y0] h = S14 N call y0 h := by
  have e1 : (fun (x_0 : List Nat) (x_8 : OA) (l2_0 l2_1 : AV) (l2_2 l2_3 : AV) (l2_4 l2_5 : AV) (l2_6 l9_0 : AV) (l9_1 l9_2 : AV) (l9_3 l9_4 : AV) (l9_5 l9_6 : AV) h => (E14_1 N call) (T14_1 x_0 x_8 l2_0 l2_1 l2_2 l2_3 l2_4 l2_5 l2_6 l9_0 l9_1 l9_2 l9_3 l9_4 l9_5 l9_6) (L14_1 x_0 x_8 l2_0 l2_1 l2_2 l2_3 l2_4 l2_5 l2_6 l9_0 l9_1 l9_2 l9_3 l9_4 l9_5 l9_6) h) = (C14_1 N call) := by
    funext x_0 x_8 l2_0 l2_1 l2_2 l2_3 l2_4 l2_5 l2_6 l9_0 l9_1 l9_2 l9_3 l9_4 l9_5 l9_6 h
    exact Z14_1 N call x_0 x_8 l2_0 l2_1 l2_2 l2_3 l2_4 l2_5 l2_6 l9_0 l9_1 l9_2 l9_3 l9_4 l9_5 l9_6 h
  have r := R14_0 N call y0 h
  rw [e1] at r
  have z : S14_0 call (C14_1 N call) y0 h = S14 N call y0 h := by kernel_rfl
  exact r.trans z
theorem V14 (N : Nat) (call : CT) (vs : List AV) (h : H) : body Tryz.prog N call Tryz.f14 A14.an vs h = row1 (fun y0 => S14 N call y0 h) vs := wrap1 (by kernel_rfl) (fun y0 => Z14 N call y0 h) vs
/- sibyl/sibylref3.count -/
def A15.a0 : Ann := .items [.opL 0, .op 1]
def A15.a1 : Ann := .items [.op 0]
def A15.a2 : Ann := .items [.op 0]
def A15.a3 : Ann := .items [.op 0, .op 1, .op 2, .op 3, .op 4, .op 5, .split 12, .op 6, .op 7, .op 8, .op 9]
def A15.a4 : Ann := .leaf
def A15.a5 : Ann := .leaf
def A15.a6 : Ann := .two A15.a4 A15.a5
def A15.a7 : Ann := .join [1, 2, 5, 6, 16] [2] A15.a3 A15.a6
def A15.a8 : Ann := .items [.op 0, .op 1, .op 2, .op 3, .op 4, .op 5, .op 6, .op 7, .op 8, .op 9, .op 10, .op 11]
def A15.a9 : Ann := .one A15.a8
def A15.a10 : Ann := .items [.op 0, .op 1, .op 2]
def A15.a11 : Ann := .two A15.a9 A15.a10
def A15.a12 : Ann := .join [1, 2, 5, 6] [2] A15.a7 A15.a11
def A15.a13 : Ann := .meet [1, 2, 5, 6] [2] A15.a12
def A15.a14 : Ann := .one A15.a13
def A15.a15 : Ann := .two A15.a2 A15.a14
def A15.a16 : Ann := .items [.op 0, .op 1, .op 2, .op 3]
def A15.a17 : Ann := .leaf
def A15.a18 : Ann := .two A15.a16 A15.a17
def A15.a19 : Ann := .two A15.a15 A15.a18
def A15.a20 : Ann := .two A15.a1 A15.a19
def A15.an : Ann := .two A15.a0 A15.a20
def F15_1 (N : Nat) (call : CT) (self : K3) : K3 :=
  (codeK Tryz.prog N call (c1 (c1 (c2 (c1 (c2 (c2 (bodyOf Tryz.f15))))))) A15.a12 (fun T L h => self (keepT [1, 2, 5, 6] T) (keepL [2] L) h) (fun i T L h => match Nat.beq i 0 with | true => (codeK Tryz.prog N call (c2 (c2 (c2 (bodyOf Tryz.f15)))) A15.a18 (resK Tryz.prog Tryz.f15.results.toList) (fun _ _ _ _ => none) (resK Tryz.prog Tryz.f15.results.toList)) T L h | false => (fun _ _ _ _ => none) i T L h) (resK Tryz.prog Tryz.f15.results.toList))
def E15_1 (N : Nat) (call : CT) : K3 := iter (F15_1 N call) N
def E15_2 (N : Nat) (call : CT) (D1 : K3) : K3 :=
  (codeK Tryz.prog N call (c2 (c1 (c1 (c2 (c1 (c2 (c2 (bodyOf Tryz.f15)))))))) A15.a11 (fun T L h => D1 (keepT [1, 2, 5, 6] T) (keepL [2] L) h) (fun i T L h => match Nat.beq i 0 with | true => (codeK Tryz.prog N call (c2 (c2 (c2 (bodyOf Tryz.f15)))) A15.a18 (resK Tryz.prog Tryz.f15.results.toList) (fun _ _ _ _ => none) (resK Tryz.prog Tryz.f15.results.toList)) T L h | false => (fun _ _ _ _ => none) i T L h) (resK Tryz.prog Tryz.f15.results.toList))
def E15_3 (N : Nat) (call : CT) (D1 : K3) : K3 :=
  (codeK Tryz.prog N call (c2 (c1 (c1 (c1 (c2 (c1 (c2 (c2 (bodyOf Tryz.f15))))))))) A15.a6 (fun T L h => (E15_2 N call D1) (keepT [1, 2, 5, 6] T) (keepL [2] L) h) (fun i T L h => match Nat.beq i 0 with | true => (codeK Tryz.prog N call (c2 (c2 (c2 (bodyOf Tryz.f15)))) A15.a18 (resK Tryz.prog Tryz.f15.results.toList) (fun _ _ _ _ => none) (resK Tryz.prog Tryz.f15.results.toList)) T L h | false => (fun _ _ _ _ => none) i T L h) (resK Tryz.prog Tryz.f15.results.toList))
def S15_1 (call : CT) (k3 : Int → Int → Int → Bool → AV → AV → AV → AV → AV → H → R) (x_1 x_5 x_6 : Int) (l2_0 l2_1 : AV) (l2_2 l2_3 l2_4 : AV) (h : H) : R :=
  onSlice l2_4 (fun a1 n2 c3 => ifB (ltI x_6 (Int.ofNat n2)) (k3 x_1 x_5 x_6 (ltI x_5 x_1) l2_0 l2_1 l2_2 l2_3 l2_4 h) (k3 x_1 x_5 x_6 false l2_0 l2_1 l2_2 l2_3 l2_4 h))
def S15_2 (call : CT) (k1 : Int → Int → Int → AV → AV → AV → AV → AV → H → R) (x_1 x_5 x_6 : Int) (l2_0 l2_1 : AV) (l2_2 l2_3 l2_4 : AV) (h : H) : R :=
  onSlice l2_4 (fun a1 n2 c3 => idxAddr 5 a1 n2 x_6 (fun b4 o5 => ldK h b4 o5 5 (fun l6 => row5 (fun x7 x8 x9 x10 x11 => bindR (call 15 [(.agg [x7, x8, x9, x10, x11]), (.int .i64 (wrapF .i64 (Int.sub x_1 x_5)))] h) (fun v12 h13 => onInt .i64 v12 (fun i14 => k1 x_1 (wrapF .i64 (Int.add x_5 i14)) (wrapF .i64 (Int.add x_6 (Int.ofNat 1))) l2_0 l2_1 l2_2 l2_3 l2_4 h13))) l6)))
def S15_3 (call : CT) (k2 : Int → Int → Int → AV → AV → AV → AV → AV → H → R) (x_1 x_5 x_6 : Int) (x_16 : Bool) (l2_0 l2_1 : AV) (l2_2 l2_3 l2_4 : AV) (h : H) : R :=
  ifB x_16 (k2 x_1 x_5 x_6 l2_0 l2_1 l2_2 l2_3 l2_4 h) (some ((.int .i64 (minI x_5 x_1)), h))
def S15_0 (call : CT) (k1 : Int → Int → Int → AV → AV → AV → AV → AV → H → R) (y0 y1 : AV) (h : H) : R :=
  onAgR y0 (fun l6 => row5 (fun x1 x2 x3 x4 x5 => onInt .i64 y1 (fun i7 => k1 i7 (Int.ofNat 1) (Int.ofNat 0) x1 x2 x3 x4 x5 h)) l6)
def C15_2 (N : Nat) (call : CT) (k1 : Int → Int → Int → AV → AV → AV → AV → AV → H → R) : Int → Int → Int → AV → AV → AV → AV → AV → H → R := S15_2 call k1
def C15_3 (N : Nat) (call : CT) (k1 : Int → Int → Int → AV → AV → AV → AV → AV → H → R) : Int → Int → Int → Bool → AV → AV → AV → AV → AV → H → R := S15_3 call (C15_2 N call k1)
def B15_1 (N : Nat) (call : CT) (ih : Int → Int → Int → AV → AV → AV → AV → AV → H → R) : Int → Int → Int → AV → AV → AV → AV → AV → H → R := S15_1 call (C15_3 N call ih)
def I15_1 (N : Nat) (call : CT) (n : Nat) : Int → Int → Int → AV → AV → AV → AV → AV → H → R := Nat.rec (motive := fun _ => Int → Int → Int → AV → AV → AV → AV → AV → H → R) (fun _ _ _ _ _ _ _ _ _ => none) (fun _ ih => B15_1 N call ih) n
def C15_1 (N : Nat) (call : CT) : Int → Int → Int → AV → AV → AV → AV → AV → H → R := I15_1 N call N
def S15 (N : Nat) (call : CT) (y0 y1 : AV) (h : H) : R := S15_0 call (C15_1 N call) y0 y1 h
def T15_1 (x_1 x_5 x_6 : Int) (l2_0 l2_1 : AV) (l2_2 l2_3 l2_4 : AV) : LF := [none, (some (.v (.int .i64 x_1))), (some (.lptr 2 0)), none, none, (some (.v (.int .i64 x_5))), (some (.v (.int .i64 x_6))), oo, oo, oo, oo, oo, oo, oo, oo, oo, oo, oo, oo, oo, oo, oo, oo, oo, oo, oo, oo, oo, oo, oo, oo, oo, oo]
def L15_1 (x_1 x_5 x_6 : Int) (l2_0 l2_1 : AV) (l2_2 l2_3 l2_4 : AV) : LL := [none, none, (some (.cells [l2_0, l2_1, l2_2, l2_3, l2_4])), oo, oo, oo, oo, oo, oo, oo, oo, oo, oo, oo, oo, oo, oo, oo, oo, oo, oo, oo, oo, oo, oo, oo, oo, oo, oo, oo, oo, oo, oo]
def T15_2 (x_1 x_5 x_6 : Int) (l2_0 l2_1 : AV) (l2_2 l2_3 l2_4 : AV) : LF := [none, (some (.v (.int .i64 x_1))), (some (.lptr 2 0)), none, none, (some (.v (.int .i64 x_5))), (some (.v (.int .i64 x_6))), oo, oo, oo, oo, oo, oo, oo, oo, oo, oo, oo, oo, oo, oo, oo, oo, oo, oo, oo, oo, oo, oo, oo, oo, oo, oo]
def L15_2 (x_1 x_5 x_6 : Int) (l2_0 l2_1 : AV) (l2_2 l2_3 l2_4 : AV) : LL := [none, none, (some (.cells [l2_0, l2_1, l2_2, l2_3, l2_4])), oo, oo, oo, oo, oo, oo, oo, oo, oo, oo, oo, oo, oo, oo, oo, oo, oo, oo, oo, oo, oo, oo, oo, oo, oo, oo, oo, oo, oo, oo]
def T15_3 (x_1 x_5 x_6 : Int) (x_16 : Bool) (l2_0 l2_1 : AV) (l2_2 l2_3 l2_4 : AV) : LF := [none, (some (.v (.int .i64 x_1))), (some (.lptr 2 0)), none, none, (some (.v (.int .i64 x_5))), (some (.v (.int .i64 x_6))), oo, oo, oo, oo, oo, oo, oo, oo, oo, (some (.v (.bool x_16))), oo, oo, oo, oo, oo, oo, oo, oo, oo, oo, oo, oo, oo, oo, oo, oo]
def L15_3 (x_1 x_5 x_6 : Int) (x_16 : Bool) (l2_0 l2_1 : AV) (l2_2 l2_3 l2_4 : AV) : LL := [none, none, (some (.cells [l2_0, l2_1, l2_2, l2_3, l2_4])), oo, oo, oo, oo, oo, oo, oo, oo, oo, oo, oo, oo, oo, oo, oo, oo, oo, oo, oo, oo, oo, oo, oo, oo, oo, oo, oo, oo, oo, oo]
theorem R15_2 (N : Nat) (call : CT) (D1 : K3) (x_1 x_5 x_6 : Int) (l2_0 l2_1 : AV) (l2_2 l2_3 l2_4 : AV) (h : H) : E15_2 N call D1 (T15_2 x_1 x_5 x_6 l2_0 l2_1 l2_2 l2_3 l2_4) (L15_2 x_1 x_5 x_6 l2_0 l2_1 l2_2 l2_3 l2_4) h = S15_2 call (fun (x_1 x_5 x_6 : Int) (l2_0 l2_1 : AV) (l2_2 l2_3 l2_4 : AV) h => D1 (T15_1 x_1 x_5 x_6 l2_0 l2_1 l2_2 l2_3 l2_4) (L15_1 x_1 x_5 x_6 l2_0 l2_1 l2_2 l2_3 l2_4) h) x_1 x_5 x_6 l2_0 l2_1 l2_2 l2_3 l2_4 h := by kernel_rfl
theorem Z15_2 (N : Nat) (call : CT) (D1 : K3) (x_1 x_5 x_6 : Int) (l2_0 l2_1 : AV) (l2_2 l2_3 l2_4 : AV) (h : H) : E15_2 N call D1 (T15_2 x_1 x_5 x_6 l2_0 l2_1 l2_2 l2_3 l2_4) (L15_2 x_1 x_5 x_6 l2_0 l2_1 l2_2 l2_3 l2_4) h = C15_2 N call (fun (x_1 x_5 x_6 : Int) (l2_0 l2_1 : AV) (l2_2 l2_3 l2_4 : AV) h => D1 (T15_1 x_1 x_5 x_6 l2_0 l2_1 l2_2 l2_3 l2_4) (L15_1 x_1 x_5 x_6 l2_0 l2_1 l2_2 l2_3 l2_4) h) x_1 x_5 x_6 l2_0 l2_1 l2_2 l2_3 l2_4 h := by
  have r := R15_2 N call D1 x_1 x_5 x_6 l2_0 l2_1 l2_2 l2_3 l2_4 h
  have z : S15_2 call (fun (x_1 x_5 x_6 : Int) (l2_0 l2_1 : AV) (l2_2 l2_3 l2_4 : AV) h => D1 (T15_1 x_1 x_5 x_6 l2_0 l2_1 l2_2 l2_3 l2_4) (L15_1 x_1 x_5 x_6 l2_0 l2_1 l2_2 l2_3 l2_4) h) x_1 x_5 x_6 l2_0 l2_1 l2_2 l2_3 l2_4 h = C15_2 N call (fun (x_1 x_5 x_6 : Int) (l2_0 l2_1 : AV) (l2_2 l2_3 l2_4 : AV) h => D1 (T15_1 x_1 x_5 x_6 l2_0 l2_1 l2_2 l2_3 l2_4) (L15_1 x_1 x_5 x_6 l2_0 l2_1 l2_2 l2_3 l2_4) h) x_1 x_5 x_6 l2_0 l2_1 l2_2 l2_3 l2_4 h := by kernel_rfl
  exact r.trans z
theorem R15_3 (N : Nat) (call : CT) (D1 : K3) (x_1 x_5 x_6 : Int) (x_16 : Bool) (l2_0 l2_1 : AV) (l2_2 l2_3 l2_4 : AV) (h : H) : E15_3 N call D1 (T15_3 x_1 x_5 x_6 x_16 l2_0 l2_1 l2_2 l2_3 l2_4) (L15_3 x_1 x_5 x_6 x_16 l2_0 l2_1 l2_2 l2_3 l2_4) h = S15_3 call (fun (x_1 x_5 x_6 : Int) (l2_0 l2_1 : AV) (l2_2 l2_3 l2_4 : AV) h => (E15_2 N call D1) (T15_2 x_1 x_5 x_6 l2_0 l2_1 l2_2 l2_3 l2_4) (L15_2 x_1 x_5 x_6 l2_0 l2_1 l2_2 l2_3 l2_4) h) x_1 x_5 x_6 x_16 l2_0 l2_1 l2_2 l2_3 l2_4 h := by kernel_rfl
theorem Z15_3 (N : Nat) (call : CT) (D1 : K3) (x_1 x_5 x_6 : Int) (x_16 : Bool) (l2_0 l2_1 : AV) (l2_2 l2_3 l2_4 : AV) (h : H) : E15_3 N call D1 (T15_3 x_1 x_5 x_6 x_16 l2_0 l2_1 l2_2 l2_3 l2_4) (L15_3 x_1 x_5 x_6 x_16 l2_0 l2_1 l2_2 l2_3 l2_4) h = C15_3 N call (fun (x_1 x_5 x_6 : Int) (l2_0 l2_1 : AV) (l2_2 l2_3 l2_4 : AV) h => D1 (T15_1 x_1 x_5 x_6 l2_0 l2_1 l2_2 l2_3 l2_4) (L15_1 x_1 x_5 x_6 l2_0 l2_1 l2_2 l2_3 l2_4) h) x_1 x_5 x_6 x_16 l2_0 l2_1 l2_2 l2_3 l2_4 h := by
  have e2 : (fun (x_1 x_5 x_6 : Int) (l2_0 l2_1 : AV) (l2_2 l2_3 l2_4 : AV) h => (E15_2 N call D1) (T15_2 x_1 x_5 x_6 l2_0 l2_1 l2_2 l2_3 l2_4) (L15_2 x_1 x_5 x_6 l2_0 l2_1 l2_2 l2_3 l2_4) h) = (C15_2 N call (fun (x_1 x_5 x_6 : Int) (l2_0 l2_1 : AV) (l2_2 l2_3 l2_4 : AV) h => D1 (T15_1 x_1 x_5 x_6 l2_0 l2_1 l2_2 l2_3 l2_4) (L15_1 x_1 x_5 x_6 l2_0 l2_1 l2_2 l2_3 l2_4) h)) := by
    funext x_1 x_5 x_6 l2_0 l2_1 l2_2 l2_3 l2_4 h
    exact Z15_2 N call D1 x_1 x_5 x_6 l2_0 l2_1 l2_2 l2_3 l2_4 h
  have r := R15_3 N call D1 x_1 x_5 x_6 x_16 l2_0 l2_1 l2_2 l2_3 l2_4 h
  rw [e2] at r
  have z : S15_3 call (C15_2 N call (fun (x_1 x_5 x_6 : Int) (l2_0 l2_1 : AV) (l2_2 l2_3 l2_4 : AV) h => D1 (T15_1 x_1 x_5 x_6 l2_0 l2_1 l2_2 l2_3 l2_4) (L15_1 x_1 x_5 x_6 l2_0 l2_1 l2_2 l2_3 l2_4) h)) x_1 x_5 x_6 x_16 l2_0 l2_1 l2_2 l2_3 l2_4 h = C15_3 N call (fun (x_1 x_5 x_6 : Int) (l2_0 l2_1 : AV) (l2_2 l2_3 l2_4 : AV) h => D1 (T15_1 x_1 x_5 x_6 l2_0 l2_1 l2_2 l2_3 l2_4) (L15_1 x_1 x_5 x_6 l2_0 l2_1 l2_2 l2_3 l2_4) h) x_1 x_5 x_6 x_16 l2_0 l2_1 l2_2 l2_3 l2_4 h := by kernel_rfl
  exact r.trans z
theorem R15_1 (N : Nat) (call : CT) (self : K3) (x_1 x_5 x_6 : Int) (l2_0 l2_1 : AV) (l2_2 l2_3 l2_4 : AV) (h : H) : F15_1 N call self (T15_1 x_1 x_5 x_6 l2_0 l2_1 l2_2 l2_3 l2_4) (L15_1 x_1 x_5 x_6 l2_0 l2_1 l2_2 l2_3 l2_4) h = S15_1 call (fun (x_1 x_5 x_6 : Int) (x_16 : Bool) (l2_0 l2_1 : AV) (l2_2 l2_3 l2_4 : AV) h => (E15_3 N call self) (T15_3 x_1 x_5 x_6 x_16 l2_0 l2_1 l2_2 l2_3 l2_4) (L15_3 x_1 x_5 x_6 x_16 l2_0 l2_1 l2_2 l2_3 l2_4) h) x_1 x_5 x_6 l2_0 l2_1 l2_2 l2_3 l2_4 h := by kernel_rfl
theorem Q15_1 (N : Nat) (call : CT) (n : Nat) : ∀ (x_1 x_5 x_6 : Int) (l2_0 l2_1 : AV) (l2_2 l2_3 l2_4 : AV) (h : H), (iter (F15_1 N call) n) (T15_1 x_1 x_5 x_6 l2_0 l2_1 l2_2 l2_3 l2_4) (L15_1 x_1 x_5 x_6 l2_0 l2_1 l2_2 l2_3 l2_4) h = I15_1 N call n x_1 x_5 x_6 l2_0 l2_1 l2_2 l2_3 l2_4 h := by
  induction n with
  | zero => intros; exact (iter_zero _ _ _ _).trans (by kernel_rfl)
  | succ n ih =>
    intro x_1 x_5 x_6 l2_0 l2_1 l2_2 l2_3 l2_4 h
    have e0 : (fun (x_1 x_5 x_6 : Int) (l2_0 l2_1 : AV) (l2_2 l2_3 l2_4 : AV) h => (iter (F15_1 N call) n) (T15_1 x_1 x_5 x_6 l2_0 l2_1 l2_2 l2_3 l2_4) (L15_1 x_1 x_5 x_6 l2_0 l2_1 l2_2 l2_3 l2_4) h) = (I15_1 N call n) := by funext x_1 x_5 x_6 l2_0 l2_1 l2_2 l2_3 l2_4 h; exact ih x_1 x_5 x_6 l2_0 l2_1 l2_2 l2_3 l2_4 h
    have e3 : (fun (x_1 x_5 x_6 : Int) (x_16 : Bool) (l2_0 l2_1 : AV) (l2_2 l2_3 l2_4 : AV) h => (E15_3 N call (iter (F15_1 N call) n)) (T15_3 x_1 x_5 x_6 x_16 l2_0 l2_1 l2_2 l2_3 l2_4) (L15_3 x_1 x_5 x_6 x_16 l2_0 l2_1 l2_2 l2_3 l2_4) h) = (C15_3 N call (I15_1 N call n)) := by
      funext x_1 x_5 x_6 x_16 l2_0 l2_1 l2_2 l2_3 l2_4 h
      have q := Z15_3 N call (iter (F15_1 N call) n) x_1 x_5 x_6 x_16 l2_0 l2_1 l2_2 l2_3 l2_4 h
      rw [e0] at q
      exact q
    have r := R15_1 N call (iter (F15_1 N call) n) x_1 x_5 x_6 l2_0 l2_1 l2_2 l2_3 l2_4 h
    rw [e3] at r
    have g := iter_succ (F15_1 N call) n (T15_1 x_1 x_5 x_6 l2_0 l2_1 l2_2 l2_3 l2_4) (L15_1 x_1 x_5 x_6 l2_0 l2_1 l2_2 l2_3 l2_4) h
    have z : S15_1 call (C15_3 N call (I15_1 N call n)) x_1 x_5 x_6 l2_0 l2_1 l2_2 l2_3 l2_4 h = I15_1 N call (n + 1) x_1 x_5 x_6 l2_0 l2_1 l2_2 l2_3 l2_4 h := by kernel_rfl
    exact g.trans (r.trans z)
theorem Z15_1 (N : Nat) (call : CT) (x_1 x_5 x_6 : Int) (l2_0 l2_1 : AV) (l2_2 l2_3 l2_4 : AV) (h : H) : (E15_1 N call) (T15_1 x_1 x_5 x_6 l2_0 l2_1 l2_2 l2_3 l2_4) (L15_1 x_1 x_5 x_6 l2_0 l2_1 l2_2 l2_3 l2_4) h = C15_1 N call x_1 x_5 x_6 l2_0 l2_1 l2_2 l2_3 l2_4 h := by
  have g : (E15_1 N call) (T15_1 x_1 x_5 x_6 l2_0 l2_1 l2_2 l2_3 l2_4) (L15_1 x_1 x_5 x_6 l2_0 l2_1 l2_2 l2_3 l2_4) h = iter (F15_1 N call) N (T15_1 x_1 x_5 x_6 l2_0 l2_1 l2_2 l2_3 l2_4) (L15_1 x_1 x_5 x_6 l2_0 l2_1 l2_2 l2_3 l2_4) h := by kernel_rfl
  have z : I15_1 N call N x_1 x_5 x_6 l2_0 l2_1 l2_2 l2_3 l2_4 h = C15_1 N call x_1 x_5 x_6 l2_0 l2_1 l2_2 l2_3 l2_4 h := by kernel_rfl
  exact g.trans ((Q15_1 N call N x_1 x_5 x_6 l2_0 l2_1 l2_2 l2_3 l2_4 h).trans z)
theorem R15_0 (N : Nat) (call : CT) (y0 y1 : AV) (h : H) : body Tryz.prog N call Tryz.f15 A15.an [y0, y1] h = S15_0 call (fun (x_1 x_5 x_6 : Int) (l2_0 l2_1 : AV) (l2_2 l2_3 l2_4 : AV) h => (E15_1 N call) (T15_1 x_1 x_5 x_6 l2_0 l2_1 l2_2 l2_3 l2_4) (L15_1 x_1 x_5 x_6 l2_0 l2_1 l2_2 l2_3 l2_4) h) y0 y1 h := by kernel_rfl
theorem Z15 (N : Nat) (call : CT) (y0 y1 : AV) (h : H) : body Tryz.prog N call Tryz.f15 A15.an [y0, y1] h = S15 N call y0 y1 h := by
  have e1 : (fun (x_1 x_5 x_6 : Int) (l2_0 l2_1 : AV) (l2_2 l2_3 l2_4 : AV) h => (E15_1 N call) (T15_1 x_1 x_5 x_6 l2_0 l2_1 l2_2 l2_3 l2_4) (L15_1 x_1 x_5 x_6 l2_0 l2_1 l2_2 l2_3 l2_4) h) = (C15_1 N call) := by
    funext x_1 x_5 x_6 l2_0 l2_1 l2_2 l2_3 l2_4 h
    exact Z15_1 N call x_1 x_5 x_6 l2_0 l2_1 l2_2 l2_3 l2_4 h
  have r := R15_0 N call y0 y1 h
  rw [e1] at r
  have z : S15_0 call (C15_1 N call) y0 y1 h = S15 N call y0 y1 h := by kernel_rfl
  exact r.trans z
theorem V15 (N : Nat) (call : CT) (vs : List AV) (h : H) : body Tryz.prog N call Tryz.f15 A15.an vs h = row2 (fun y0 y1 => S15 N call y0 y1 h) vs := wrap2 (by kernel_rfl) (fun y0 y1 => Z15 N call y0 y1 h) vs
/- sibyl/sibylref3.Same -/
def A16.a0 : Ann := .items [.opL 0, .opL 1, .op 2]
def A16.a1 : Ann := .items [.op 0, .op 1, .op 2, .op 3, .op 4, .op 5, .split 11, .op 6, .op 7, .op 8, .op 9, .op 10, .op 11, .op 12, .split 18, .op 13, .op 14, .op 15, .op 16, .op 17, .op 18, .op 19, .split 25, .op 20, .op 21, .op 22, .op 23, .op 24, .op 25, .op 26, .op 27]
def A16.a2 : Ann := .items [.op 0]
def A16.a3 : Ann := .leaf
def A16.a4 : Ann := .two A16.a2 A16.a3
def A16.a5 : Ann := .leaf
def A16.a6 : Ann := .two A16.a4 A16.a5
def A16.a7 : Ann := .join [2, 3, 33] [2, 3] A16.a1 A16.a6
def A16.a8 : Ann := .items [.op 0]
def A16.a9 : Ann := .items [.op 0, .op 1, .op 2, .op 3, .op 4]
def A16.a10 : Ann := .leaf
def A16.a11 : Ann := .leaf
def A16.a12 : Ann := .two A16.a10 A16.a11
def A16.a13 : Ann := .two A16.a9 A16.a12
def A16.a14 : Ann := .drawn [.op 0, .op 1, .op 2, .op 3, .op 4, .op 5, .op 6, .op 7, .op 8, .op 9, .op 10, .op 11]
def A16.a15 : Ann := .items [.op 0]
def A16.a16 : Ann := .leaf
def A16.a17 : Ann := .two A16.a15 A16.a16
def A16.a18 : Ann := .leaf
def A16.a19 : Ann := .two A16.a17 A16.a18
def A16.a20 : Ann := .two A16.a14 A16.a19
def A16.a21 : Ann := .one A16.a20
def A16.a22 : Ann := .items [.op 0, .op 1, .op 2]
def A16.a23 : Ann := .two A16.a21 A16.a22
def A16.a24 : Ann := .two A16.a13 A16.a23
def A16.a25 : Ann := .meet [2, 3, 5] [2, 3] A16.a24
def A16.a26 : Ann := .one A16.a25
def A16.a27 : Ann := .two A16.a8 A16.a26
def A16.a28 : Ann := .items [.op 0]
def A16.a29 : Ann := .leaf
def A16.a30 : Ann := .two A16.a28 A16.a29
def A16.a31 : Ann := .two A16.a27 A16.a30
def A16.a32 : Ann := .join [2, 3] [2, 3] A16.a7 A16.a31
def A16.an : Ann := .two A16.a0 A16.a32
def E16_1 (N : Nat) (call : CT) : K3 :=
  (codeK Tryz.prog N call (c2 (c2 (bodyOf Tryz.f16))) A16.a31 (resK Tryz.prog Tryz.f16.results.toList) (fun _ _ _ _ => none) (resK Tryz.prog Tryz.f16.results.toList))
def E16_2 (N : Nat) (call : CT) : K3 :=
  (codeK Tryz.prog N call (c2 (c1 (c2 (bodyOf Tryz.f16)))) A16.a6 (fun T L h => (E16_1 N call) (keepT [2, 3] T) (keepL [2, 3] L) h) (fun _ _ _ _ => none) (resK Tryz.prog Tryz.f16.results.toList))
def F16_3 (N : Nat) (call : CT) (self : K3) : K3 :=
  (codeK Tryz.prog N call (c1 (c1 (c2 (c1 (c2 (c2 (bodyOf Tryz.f16))))))) A16.a24 (fun T L h => self (keepT [2, 3, 5] T) (keepL [2, 3] L) h) (fun i T L h => match Nat.beq i 0 with | true => (codeK Tryz.prog N call (c2 (c2 (c2 (bodyOf Tryz.f16)))) A16.a30 (resK Tryz.prog Tryz.f16.results.toList) (fun _ _ _ _ => none) (resK Tryz.prog Tryz.f16.results.toList)) T L h | false => (fun _ _ _ _ => none) i T L h) (resK Tryz.prog Tryz.f16.results.toList))
def E16_3 (N : Nat) (call : CT) : K3 := iter (F16_3 N call) N
def S16_1 (call : CT) (k3 : Int → AV → AV → AV → AV → AV → AV → AV → AV → AV → AV → H → R) (l2_0 l2_1 : AV) (l2_2 l2_3 : AV) (l2_4 l3_0 : AV) (l3_1 l3_2 : AV) (l3_3 l3_4 : AV) (h : H) : R :=
  k3 (Int.ofNat 0) l2_0 l2_1 l2_2 l2_3 l2_4 l3_0 l3_1 l3_2 l3_3 l3_4 h
def S16_2 (call : CT) (k1 : AV → AV → AV → AV → AV → AV → AV → AV → AV → AV → H → R) (x_33 : Bool) (l2_0 l2_1 : AV) (l2_2 l2_3 : AV) (l2_4 l3_0 : AV) (l3_1 l3_2 : AV) (l3_3 l3_4 : AV) (h : H) : R :=
  ifB x_33 (some ((.bool false), h)) (k1 l2_0 l2_1 l2_2 l2_3 l2_4 l3_0 l3_1 l3_2 l3_3 l3_4 h)
def S16_3 (call : CT) (k3 : Int → AV → AV → AV → AV → AV → AV → AV → AV → AV → AV → H → R) (x_5 : Int) (l2_0 l2_1 : AV) (l2_2 l2_3 : AV) (l2_4 l3_0 : AV) (l3_1 l3_2 : AV) (l3_3 l3_4 : AV) (h : H) : R :=
  onSlice l2_4 (fun a1 n2 c3 => ifB (ltI x_5 (Int.ofNat n2)) (onSlice l2_4 (fun a4 n5 c6 => idxAddr 5 a4 n5 x_5 (fun b7 o8 => ldK h b7 o8 5 (fun l9 => row5 (fun x10 x11 x12 x13 x14 => onSlice l3_4 (fun a15 n16 c17 => idxAddr 5 a15 n16 x_5 (fun b18 o19 => ldK h b18 o19 5 (fun l20 => row5 (fun x21 x22 x23 x24 x25 => bindR (call 16 [(.agg [x10, x11, x12, x13, x14]), (.agg [x21, x22, x23, x24, x25])] h) (fun v26 h27 => onBool v26 (fun e28 => ifB (!e28) (some ((.bool false), h27)) (k3 (wrapF .i64 (Int.add x_5 (Int.ofNat 1))) l2_0 l2_1 l2_2 l2_3 l2_4 l3_0 l3_1 l3_2 l3_3 l3_4 h27)))) l20)))) l9)))) (some ((.bool true), h)))
def S16_0 (call : CT) (k2 : Bool → AV → AV → AV → AV → AV → AV → AV → AV → AV → AV → H → R) (y0 y1 : AV) (h : H) : R :=
  onAgR y0 (fun l6 => row5 (fun x1 x2 x3 x4 x5 => onAgR y1 (fun l12 => row5 (fun x7 x8 x9 x10 x11 => onStr x1 (fun s13 => onStr x7 (fun s14 => ifB (!(eqS s13 s14)) (k2 true x1 x2 x3 x4 x5 x7 x8 x9 x10 x11 h) (onStr x2 (fun s15 => onStr x8 (fun s16 => ifB (!(eqS s15 s16)) (k2 true x1 x2 x3 x4 x5 x7 x8 x9 x10 x11 h) (onInt .i64 x3 (fun i17 => onInt .i64 x9 (fun i18 => ifB (!eqI i17 i18) (k2 true x1 x2 x3 x4 x5 x7 x8 x9 x10 x11 h) (onSlice x5 (fun a19 n20 c21 => onSlice x11 (fun a22 n23 c24 => k2 (!eqI (Int.ofNat n20) (Int.ofNat n23)) x1 x2 x3 x4 x5 x7 x8 x9 x10 x11 h)))))))))))) l12)) l6)
def B16_3 (N : Nat) (call : CT) (ih : Int → AV → AV → AV → AV → AV → AV → AV → AV → AV → AV → H → R) : Int → AV → AV → AV → AV → AV → AV → AV → AV → AV → AV → H → R := S16_3 call ih
def I16_3 (N : Nat) (call : CT) (n : Nat) : Int → AV → AV → AV → AV → AV → AV → AV → AV → AV → AV → H → R := Nat.rec (motive := fun _ => Int → AV → AV → AV → AV → AV → AV → AV → AV → AV → AV → H → R) (fun _ _ _ _ _ _ _ _ _ _ _ _ => none) (fun _ ih => B16_3 N call ih) n
def C16_3 (N : Nat) (call : CT) : Int → AV → AV → AV → AV → AV → AV → AV → AV → AV → AV → H → R := I16_3 N call N
def C16_1 (N : Nat) (call : CT) : AV → AV → AV → AV → AV → AV → AV → AV → AV → AV → H → R := S16_1 call (C16_3 N call)
def C16_2 (N : Nat) (call : CT) : Bool → AV → AV → AV → AV → AV → AV → AV → AV → AV → AV → H → R := S16_2 call (C16_1 N call)
def S16 (N : Nat) (call : CT) (y0 y1 : AV) (h : H) : R := S16_0 call (C16_2 N call) y0 y1 h
def T16_1 (l2_0 l2_1 : AV) (l2_2 l2_3 : AV) (l2_4 l3_0 : AV) (l3_1 l3_2 : AV) (l3_3 l3_4 : AV) : LF := [none, none, (some (.lptr 2 0)), (some (.lptr 3 0)), oo, oo, oo, oo, oo, oo, oo, oo, oo, oo, oo, oo, oo, oo, oo, oo, oo, oo, oo, oo, oo, oo, oo, oo, oo, oo, oo, oo, oo, oo, oo, oo, oo, oo, oo, oo, oo, oo, oo, oo, oo, oo, oo, oo, oo, oo, oo, oo, oo]
def L16_1 (l2_0 l2_1 : AV) (l2_2 l2_3 : AV) (l2_4 l3_0 : AV) (l3_1 l3_2 : AV) (l3_3 l3_4 : AV) : LL := [none, none, (some (.cells [l2_0, l2_1, l2_2, l2_3, l2_4])), (some (.cells [l3_0, l3_1, l3_2, l3_3, l3_4])), oo, oo, oo, oo, oo, oo, oo, oo, oo, oo, oo, oo, oo, oo, oo, oo, oo, oo, oo, oo, oo, oo, oo, oo, oo, oo, oo, oo, oo, oo, oo, oo, oo, oo, oo, oo, oo, oo, oo, oo, oo, oo, oo, oo, oo, oo, oo, oo, oo]
def T16_2 (x_33 : Bool) (l2_0 l2_1 : AV) (l2_2 l2_3 : AV) (l2_4 l3_0 : AV) (l3_1 l3_2 : AV) (l3_3 l3_4 : AV) : LF := [none, none, (some (.lptr 2 0)), (some (.lptr 3 0)), oo, oo, oo, oo, oo, oo, oo, oo, oo, oo, oo, oo, oo, oo, oo, oo, oo, oo, oo, oo, oo, oo, oo, oo, oo, oo, oo, oo, oo, (some (.v (.bool x_33))), oo, oo, oo, oo, oo, oo, oo, oo, oo, oo, oo, oo, oo, oo, oo, oo, oo, oo, oo]
def L16_2 (x_33 : Bool) (l2_0 l2_1 : AV) (l2_2 l2_3 : AV) (l2_4 l3_0 : AV) (l3_1 l3_2 : AV) (l3_3 l3_4 : AV) : LL := [none, none, (some (.cells [l2_0, l2_1, l2_2, l2_3, l2_4])), (some (.cells [l3_0, l3_1, l3_2, l3_3, l3_4])), oo, oo, oo, oo, oo, oo, oo, oo, oo, oo, oo, oo, oo, oo, oo, oo, oo, oo, oo, oo, oo, oo, oo, oo, oo, oo, oo, oo, oo, oo, oo, oo, oo, oo, oo, oo, oo, oo, oo, oo, oo, oo, oo, oo, oo, oo, oo, oo, oo]
def T16_3 (x_5 : Int) (l2_0 l2_1 : AV) (l2_2 l2_3 : AV) (l2_4 l3_0 : AV) (l3_1 l3_2 : AV) (l3_3 l3_4 : AV) : LF := [none, none, (some (.lptr 2 0)), (some (.lptr 3 0)), none, (some (.v (.int .i64 x_5))), oo, oo, oo, oo, oo, oo, oo, oo, oo, oo, oo, oo, oo, oo, oo, oo, oo, oo, oo, oo, oo, oo, oo, oo, oo, oo, oo, oo, oo, oo, oo, oo, oo, oo, oo, oo, oo, oo, oo, oo, oo, oo, oo, oo, oo, oo, oo]
def L16_3 (x_5 : Int) (l2_0 l2_1 : AV) (l2_2 l2_3 : AV) (l2_4 l3_0 : AV) (l3_1 l3_2 : AV) (l3_3 l3_4 : AV) : LL := [none, none, (some (.cells [l2_0, l2_1, l2_2, l2_3, l2_4])), (some (.cells [l3_0, l3_1, l3_2, l3_3, l3_4])), oo, oo, oo, oo, oo, oo, oo, oo, oo, oo, oo, oo, oo, oo, oo, oo, oo, oo, oo, oo, oo, oo, oo, oo, oo, oo, oo, oo, oo, oo, oo, oo, oo, oo, oo, oo, oo, oo, oo, oo, oo, oo, oo, oo, oo, oo, oo, oo, oo]
theorem R16_3 (N : Nat) (call : CT) (self : K3) (x_5 : Int) (l2_0 l2_1 : AV) (l2_2 l2_3 : AV) (l2_4 l3_0 : AV) (l3_1 l3_2 : AV) (l3_3 l3_4 : AV) (h : H) : F16_3 N call self (T16_3 x_5 l2_0 l2_1 l2_2 l2_3 l2_4 l3_0 l3_1 l3_2 l3_3 l3_4) (L16_3 x_5 l2_0 l2_1 l2_2 l2_3 l2_4 l3_0 l3_1 l3_2 l3_3 l3_4) h = S16_3 call (fun (x_5 : Int) (l2_0 l2_1 : AV) (l2_2 l2_3 : AV) (l2_4 l3_0 : AV) (l3_1 l3_2 : AV) (l3_3 l3_4 : AV) h => self (T16_3 x_5 l2_0 l2_1 l2_2 l2_3 l2_4 l3_0 l3_1 l3_2 l3_3 l3_4) (L16_3 x_5 l2_0 l2_1 l2_2 l2_3 l2_4 l3_0 l3_1 l3_2 l3_3 l3_4) h) x_5 l2_0 l2_1 l2_2 l2_3 l2_4 l3_0 l3_1 l3_2 l3_3 l3_4 h := by kernel_rfl
theorem Q16_3 (N : Nat) (call : CT) (n : Nat) : ∀ (x_5 : Int) (l2_0 l2_1 : AV) (l2_2 l2_3 : AV) (l2_4 l3_0 : AV) (l3_1 l3_2 : AV) (l3_3 l3_4 : AV) (h : H), (iter (F16_3 N call) n) (T16_3 x_5 l2_0 l2_1 l2_2 l2_3 l2_4 l3_0 l3_1 l3_2 l3_3 l3_4) (L16_3 x_5 l2_0 l2_1 l2_2 l2_3 l2_4 l3_0 l3_1 l3_2 l3_3 l3_4) h = I16_3 N call n x_5 l2_0 l2_1 l2_2 l2_3 l2_4 l3_0 l3_1 l3_2 l3_3 l3_4 h := by
  induction n with
  | zero => intros; exact (iter_zero _ _ _ _).trans (by kernel_rfl)
  | succ n ih =>
    intro x_5 l2_0 l2_1 l2_2 l2_3 l2_4 l3_0 l3_1 l3_2 l3_3 l3_4 h
    have e0 : (fun (x_5 : Int) (l2_0 l2_1 : AV) (l2_2 l2_3 : AV) (l2_4 l3_0 : AV) (l3_1 l3_2 : AV) (l3_3 l3_4 : AV) h => (iter (F16_3 N call) n) (T16_3 x_5 l2_0 l2_1 l2_2 l2_3 l2_4 l3_0 l3_1 l3_2 l3_3 l3_4) (L16_3 x_5 l2_0 l2_1 l2_2 l2_3 l2_4 l3_0 l3_1 l3_2 l3_3 l3_4) h) = (I16_3 N call n) := by funext x_5 l2_0 l2_1 l2_2 l2_3 l2_4 l3_0 l3_1 l3_2 l3_3 l3_4 h; exact ih x_5 l2_0 l2_1 l2_2 l2_3 l2_4 l3_0 l3_1 l3_2 l3_3 l3_4 h
    have r := R16_3 N call (iter (F16_3 N call) n) x_5 l2_0 l2_1 l2_2 l2_3 l2_4 l3_0 l3_1 l3_2 l3_3 l3_4 h
    rw [e0] at r
    have g := iter_succ (F16_3 N call) n (T16_3 x_5 l2_0 l2_1 l2_2 l2_3 l2_4 l3_0 l3_1 l3_2 l3_3 l3_4) (L16_3 x_5 l2_0 l2_1 l2_2 l2_3 l2_4 l3_0 l3_1 l3_2 l3_3 l3_4) h
    have z : S16_3 call (I16_3 N call n) x_5 l2_0 l2_1 l2_2 l2_3 l2_4 l3_0 l3_1 l3_2 l3_3 l3_4 h = I16_3 N call (n + 1) x_5 l2_0 l2_1 l2_2 l2_3 l2_4 l3_0 l3_1 l3_2 l3_3 l3_4 h := by kernel_rfl
    exact g.trans (r.trans z)
theorem Z16_3 (N : Nat) (call : CT) (x_5 : Int) (l2_0 l2_1 : AV) (l2_2 l2_3 : AV) (l2_4 l3_0 : AV) (l3_1 l3_2 : AV) (l3_3 l3_4 : AV) (h : H) : (E16_3 N call) (T16_3 x_5 l2_0 l2_1 l2_2 l2_3 l2_4 l3_0 l3_1 l3_2 l3_3 l3_4) (L16_3 x_5 l2_0 l2_1 l2_2 l2_3 l2_4 l3_0 l3_1 l3_2 l3_3 l3_4) h = C16_3 N call x_5 l2_0 l2_1 l2_2 l2_3 l2_4 l3_0 l3_1 l3_2 l3_3 l3_4 h := by
  have g : (E16_3 N call) (T16_3 x_5 l2_0 l2_1 l2_2 l2_3 l2_4 l3_0 l3_1 l3_2 l3_3 l3_4) (L16_3 x_5 l2_0 l2_1 l2_2 l2_3 l2_4 l3_0 l3_1 l3_2 l3_3 l3_4) h = iter (F16_3 N call) N (T16_3 x_5 l2_0 l2_1 l2_2 l2_3 l2_4 l3_0 l3_1 l3_2 l3_3 l3_4) (L16_3 x_5 l2_0 l2_1 l2_2 l2_3 l2_4 l3_0 l3_1 l3_2 l3_3 l3_4) h := by kernel_rfl
  have z : I16_3 N call N x_5 l2_0 l2_1 l2_2 l2_3 l2_4 l3_0 l3_1 l3_2 l3_3 l3_4 h = C16_3 N call x_5 l2_0 l2_1 l2_2 l2_3 l2_4 l3_0 l3_1 l3_2 l3_3 l3_4 h := by kernel_rfl
  exact g.trans ((Q16_3 N call N x_5 l2_0 l2_1 l2_2 l2_3 l2_4 l3_0 l3_1 l3_2 l3_3 l3_4 h).trans z)
theorem R16_1 (N : Nat) (call : CT) (l2_0 l2_1 : AV) (l2_2 l2_3 : AV) (l2_4 l3_0 : AV) (l3_1 l3_2 : AV) (l3_3 l3_4 : AV) (h : H) : E16_1 N call (T16_1 l2_0 l2_1 l2_2 l2_3 l2_4 l3_0 l3_1 l3_2 l3_3 l3_4) (L16_1 l2_0 l2_1 l2_2 l2_3 l2_4 l3_0 l3_1 l3_2 l3_3 l3_4) h = S16_1 call (fun (x_5 : Int) (l2_0 l2_1 : AV) (l2_2 l2_3 : AV) (l2_4 l3_0 : AV) (l3_1 l3_2 : AV) (l3_3 l3_4 : AV) h => (E16_3 N call) (T16_3 x_5 l2_0 l2_1 l2_2 l2_3 l2_4 l3_0 l3_1 l3_2 l3_3 l3_4) (L16_3 x_5 l2_0 l2_1 l2_2 l2_3 l2_4 l3_0 l3_1 l3_2 l3_3 l3_4) h) l2_0 l2_1 l2_2 l2_3 l2_4 l3_0 l3_1 l3_2 l3_3 l3_4 h := by kernel_rfl
theorem Z16_1 (N : Nat) (call : CT) (l2_0 l2_1 : AV) (l2_2 l2_3 : AV) (l2_4 l3_0 : AV) (l3_1 l3_2 : AV) (l3_3 l3_4 : AV) (h : H) : E16_1 N call (T16_1 l2_0 l2_1 l2_2 l2_3 l2_4 l3_0 l3_1 l3_2 l3_3 l3_4) (L16_1 l2_0 l2_1 l2_2 l2_3 l2_4 l3_0 l3_1 l3_2 l3_3 l3_4) h = C16_1 N call l2_0 l2_1 l2_2 l2_3 l2_4 l3_0 l3_1 l3_2 l3_3 l3_4 h := by
  have e3 : (fun (x_5 : Int) (l2_0 l2_1 : AV) (l2_2 l2_3 : AV) (l2_4 l3_0 : AV) (l3_1 l3_2 : AV) (l3_3 l3_4 : AV) h => (E16_3 N call) (T16_3 x_5 l2_0 l2_1 l2_2 l2_3 l2_4 l3_0 l3_1 l3_2 l3_3 l3_4) (L16_3 x_5 l2_0 l2_1 l2_2 l2_3 l2_4 l3_0 l3_1 l3_2 l3_3 l3_4) h) = (C16_3 N call) := by
    funext x_5 l2_0 l2_1 l2_2 l2_3 l2_4 l3_0 l3_1 l3_2 l3_3 l3_4 h
    exact Z16_3 N call x_5 l2_0 l2_1 l2_2 l2_3 l2_4 l3_0 l3_1 l3_2 l3_3 l3_4 h
  have r := R16_1 N call l2_0 l2_1 l2_2 l2_3 l2_4 l3_0 l3_1 l3_2 l3_3 l3_4 h
  rw [e3] at r
  have z : S16_1 call (C16_3 N call) l2_0 l2_1 l2_2 l2_3 l2_4 l3_0 l3_1 l3_2 l3_3 l3_4 h = C16_1 N call l2_0 l2_1 l2_2 l2_3 l2_4 l3_0 l3_1 l3_2 l3_3 l3_4 h := by kernel_rfl
  exact r.trans z
theorem R16_2 (N : Nat) (call : CT) (x_33 : Bool) (l2_0 l2_1 : AV) (l2_2 l2_3 : AV) (l2_4 l3_0 : AV) (l3_1 l3_2 : AV) (l3_3 l3_4 : AV) (h : H) : E16_2 N call (T16_2 x_33 l2_0 l2_1 l2_2 l2_3 l2_4 l3_0 l3_1 l3_2 l3_3 l3_4) (L16_2 x_33 l2_0 l2_1 l2_2 l2_3 l2_4 l3_0 l3_1 l3_2 l3_3 l3_4) h = S16_2 call (fun (l2_0 l2_1 : AV) (l2_2 l2_3 : AV) (l2_4 l3_0 : AV) (l3_1 l3_2 : AV) (l3_3 l3_4 : AV) h => (E16_1 N call) (T16_1 l2_0 l2_1 l2_2 l2_3 l2_4 l3_0 l3_1 l3_2 l3_3 l3_4) (L16_1 l2_0 l2_1 l2_2 l2_3 l2_4 l3_0 l3_1 l3_2 l3_3 l3_4) h) x_33 l2_0 l2_1 l2_2 l2_3 l2_4 l3_0 l3_1 l3_2 l3_3 l3_4 h := by kernel_rfl
theorem Z16_2 (N : Nat) (call : CT) (x_33 : Bool) (l2_0 l2_1 : AV) (l2_2 l2_3 : AV) (l2_4 l3_0 : AV) (l3_1 l3_2 : AV) (l3_3 l3_4 : AV) (h : H) : E16_2 N call (T16_2 x_33 l2_0 l2_1 l2_2 l2_3 l2_4 l3_0 l3_1 l3_2 l3_3 l3_4) (L16_2 x_33 l2_0 l2_1 l2_2 l2_3 l2_4 l3_0 l3_1 l3_2 l3_3 l3_4) h = C16_2 N call x_33 l2_0 l2_1 l2_2 l2_3 l2_4 l3_0 l3_1 l3_2 l3_3 l3_4 h := by
  have e1 : (fun (l2_0 l2_1 : AV) (l2_2 l2_3 : AV) (l2_4 l3_0 : AV) (l3_1 l3_2 : AV) (l3_3 l3_4 : AV) h => (E16_1 N call) (T16_1 l2_0 l2_1 l2_2 l2_3 l2_4 l3_0 l3_1 l3_2 l3_3 l3_4) (L16_1 l2_0 l2_1 l2_2 l2_3 l2_4 l3_0 l3_1 l3_2 l3_3 l3_4) h) = (C16_1 N call) := by
    funext l2_0 l2_1 l2_2 l2_3 l2_4 l3_0 l3_1 l3_2 l3_3 l3_4 h
    exact Z16_1 N call l2_0 l2_1 l2_2 l2_3 l2_4 l3_0 l3_1 l3_2 l3_3 l3_4 h
  have r := R16_2 N call x_33 l2_0 l2_1 l2_2 l2_3 l2_4 l3_0 l3_1 l3_2 l3_3 l3_4 h
  rw [e1] at r
  have z : S16_2 call (C16_1 N call) x_33 l2_0 l2_1 l2_2 l2_3 l2_4 l3_0 l3_1 l3_2 l3_3 l3_4 h = C16_2 N call x_33 l2_0 l2_1 l2_2 l2_3 l2_4 l3_0 l3_1 l3_2 l3_3 l3_4 h := by kernel_rfl
  exact r.trans z
theorem R16_0 (N : Nat) (call : CT) (y0 y1 : AV) (h : H) : body Tryz.prog N call Tryz.f16 A16.an [y0, y1] h = S16_0 call (fun (x_33 : Bool) (l2_0 l2_1 : AV) (l2_2 l2_3 : AV) (l2_4 l3_0 : AV) (l3_1 l3_2 : AV) (l3_3 l3_4 : AV) h => (E16_2 N call) (T16_2 x_33 l2_0 l2_1 l2_2 l2_3 l2_4 l3_0 l3_1 l3_2 l3_3 l3_4) (L16_2 x_33 l2_0 l2_1 l2_2 l2_3 l2_4 l3_0 l3_1 l3_2 l3_3 l3_4) h) y0 y1 h := by kernel_rfl
theorem Z16 (N : Nat) (call : CT) (y0 y1 : AV) (h : H) : body Tryz.prog N call Tryz.f16 A16.an [y0, y1] h = S16 N call y0 y1 h := by
  have e2 : (fun (x_33 : Bool) (l2_0 l2_1 : AV) (l2_2 l2_3 : AV) (l2_4 l3_0 : AV) (l3_1 l3_2 : AV) (l3_3 l3_4 : AV) h => (E16_2 N call) (T16_2 x_33 l2_0 l2_1 l2_2 l2_3 l2_4 l3_0 l3_1 l3_2 l3_3 l3_4) (L16_2 x_33 l2_0 l2_1 l2_2 l2_3 l2_4 l3_0 l3_1 l3_2 l3_3 l3_4) h) = (C16_2 N call) := by
    funext x_33 l2_0 l2_1 l2_2 l2_3 l2_4 l3_0 l3_1 l3_2 l3_3 l3_4 h
    exact Z16_2 N call x_33 l2_0 l2_1 l2_2 l2_3 l2_4 l3_0 l3_1 l3_2 l3_3 l3_4 h
  have r := R16_0 N call y0 y1 h
  rw [e2] at r
  have z : S16_0 call (C16_2 N call) y0 y1 h = S16 N call y0 y1 h := by kernel_rfl
  exact r.trans z
theorem V16 (N : Nat) (call : CT) (vs : List AV) (h : H) : body Tryz.prog N call Tryz.f16 A16.an vs h = row2 (fun y0 y1 => S16 N call y0 y1 h) vs := wrap2 (by kernel_rfl) (fun y0 y1 => Z16 N call y0 y1 h) vs
/- sibyl/tree.Is -/
def A22.a0 : Ann := .items [.opL 0, .op 1]
def A22.a1 : Ann := .items [.op 0, .op 1, .op 2, .op 3, .split 6, .op 4, .op 5, .op 6, .op 7, .op 8, .op 9, .split 12, .op 10, .op 11, .op 12, .op 13, .op 14]
def A22.a2 : Ann := .leaf
def A22.a3 : Ann := .two A22.a1 A22.a2
def A22.an : Ann := .two A22.a0 A22.a3
def S22_0 (call : CT) (y0 : AV) (h : H) : R :=
  onAgR y0 (fun l8 => row7 (fun x1 x2 x3 x4 x5 x6 x7 => onSlice x1 (fun a9 n10 c11 => bindR (call 39 [(.slice a9 n10 c11)] h) (fun v12 h13 => onBool v12 (fun e14 => ifB e14 (onSlice x2 (fun a15 n16 c17 => bindR (call 40 [(.slice a15 n16 c17), (.func 41 [] [])] h13) (fun v18 h19 => onBool v18 (fun e20 => ifB (!e20) (bindR (call 43 [(.agg [x3, x4, x5, x6, x7])] h19) (fun v21 h22 => onBool v21 (fun e23 => some ((.bool e23), h22)))) (some ((.bool false), h19)))))) (some ((.bool false), h13)))))) l8)
def S22 (N : Nat) (call : CT) (y0 : AV) (h : H) : R := S22_0 call y0 h
theorem R22_0 (N : Nat) (call : CT) (y0 : AV) (h : H) : body Tryz.prog N call Tryz.f22 A22.an [y0] h = S22_0 call y0 h := by kernel_rfl
theorem Z22 (N : Nat) (call : CT) (y0 : AV) (h : H) : body Tryz.prog N call Tryz.f22 A22.an [y0] h = S22 N call y0 h := by
  have r := R22_0 N call y0 h
  have z : S22_0 call y0 h = S22 N call y0 h := by kernel_rfl
  exact r.trans z
theorem V22 (N : Nat) (call : CT) (vs : List AV) (h : H) : body Tryz.prog N call Tryz.f22 A22.an vs h = row1 (fun y0 => S22 N call y0 h) vs := wrap1 (by kernel_rfl) (fun y0 => Z22 N call y0 h) vs
/- sibyl/kinds.twice -/
def A23.a0 : Ann := .items [.op 0, .op 1]
def A23.a1 : Ann := .items [.op 0, .op 1, .op 2]
def A23.a2 : Ann := .items [.op 0]
def A23.a3 : Ann := .leaf
def A23.a4 : Ann := .leaf
def A23.a5 : Ann := .two A23.a3 A23.a4
def A23.a6 : Ann := .items [.op 0, .op 1, .op 2, .opL 3, .op 4, .op 5]
def A23.a7 : Ann := .drawn [.op 0, .op 1, .op 2, .op 3, .op 4, .op 5, .op 6]
def A23.a8 : Ann := .items [.op 0, .op 1, .op 2, .op 3]
def A23.a9 : Ann := .leaf
def A23.a10 : Ann := .two A23.a8 A23.a9
def A23.a11 : Ann := .leaf
def A23.a12 : Ann := .two A23.a10 A23.a11
def A23.a13 : Ann := .two A23.a7 A23.a12
def A23.a14 : Ann := .two A23.a6 A23.a13
def A23.a15 : Ann := .one A23.a14
def A23.a16 : Ann := .items [.op 0, .op 1]
def A23.a17 : Ann := .two A23.a15 A23.a16
def A23.a18 : Ann := .two A23.a5 A23.a17
def A23.a19 : Ann := .two A23.a2 A23.a18
def A23.a20 : Ann := .meet [0, 6, 7, 8] [] A23.a19
def A23.a21 : Ann := .one A23.a20
def A23.a22 : Ann := .two A23.a1 A23.a21
def A23.a23 : Ann := .items [.op 0, .op 1]
def A23.a24 : Ann := .leaf
def A23.a25 : Ann := .two A23.a23 A23.a24
def A23.a26 : Ann := .two A23.a22 A23.a25
def A23.an : Ann := .two A23.a0 A23.a26
def F23_1 (N : Nat) (call : CT) (self : K3) : K3 :=
  (codeK Tryz.prog N call (c1 (c1 (c2 (c1 (c2 (bodyOf Tryz.f23)))))) A23.a19 (fun T L h => self (keepT [0, 6, 7, 8] T) (keepL [] L) h) (fun i T L h => match Nat.beq i 0 with | true => (codeK Tryz.prog N call (c2 (c2 (bodyOf Tryz.f23))) A23.a25 (resK Tryz.prog Tryz.f23.results.toList) (fun _ _ _ _ => none) (resK Tryz.prog Tryz.f23.results.toList)) T L h | false => (fun _ _ _ _ => none) i T L h) (resK Tryz.prog Tryz.f23.results.toList))
def E23_1 (N : Nat) (call : CT) : K3 := iter (F23_1 N call) N
def S23_1 (call : CT) (k1 : OA → Nat → Option Nat → OA → Nat → Option Nat → Int → Int → H → R) (a_0 : OA) (n_0 : Nat) (c_0 : Option Nat) (a_6 : OA) (n_6 : Nat) (c_6 : Option Nat) (x_7 x_8 : Int) (h : H) : R :=
  ifB (ltI x_8 x_7) (idxAddr 3 a_6 n_6 x_8 (fun b1 o2 => ldK h b1 o2 3 (fun l3 => row3 (fun x4 x5 x6 => slcV 3 a_0 n_0 c_0 none (some x_8) none (fun a7 n8 c9 => onStr x4 (fun s10 => bindR (call 44 [(.slice a7 n8 c9), (.str s10)] h) (fun v11 h12 => onInt .i64 v11 (fun i13 => ifB (leI (Int.ofNat 0) i13) (onInt .i64 x6 (fun i14 => some (.tuple [(.int .i64 i14), (.int .i64 (Int.ofNat 6))], h12))) (k1 a_0 n_0 c_0 a_6 n_6 c_6 x_7 (wrapF .i64 (Int.add x_8 (Int.ofNat 1))) h12)))))) l3))) (some (.tuple [(.int .i64 (Int.ofNat 0)), (.int .i64 (Int.ofNat 0))], h))
def S23_0 (call : CT) (k1 : OA → Nat → Option Nat → OA → Nat → Option Nat → Int → Int → H → R) (y0 : AV) (h : H) : R :=
  onSlice y0 (fun a1 n2 c3 => k1 a1 n2 c3 a1 n2 c3 (Int.ofNat n2) (Int.ofNat 0) h)
def B23_1 (N : Nat) (call : CT) (ih : OA → Nat → Option Nat → OA → Nat → Option Nat → Int → Int → H → R) : OA → Nat → Option Nat → OA → Nat → Option Nat → Int → Int → H → R := S23_1 call ih
def I23_1 (N : Nat) (call : CT) (n : Nat) : OA → Nat → Option Nat → OA → Nat → Option Nat → Int → Int → H → R := Nat.rec (motive := fun _ => OA → Nat → Option Nat → OA → Nat → Option Nat → Int → Int → H → R) (fun _ _ _ _ _ _ _ _ _ => none) (fun _ ih => B23_1 N call ih) n
def C23_1 (N : Nat) (call : CT) : OA → Nat → Option Nat → OA → Nat → Option Nat → Int → Int → H → R := I23_1 N call N
def S23 (N : Nat) (call : CT) (y0 : AV) (h : H) : R := S23_0 call (C23_1 N call) y0 h
def T23_1 (a_0 : OA) (n_0 : Nat) (c_0 : Option Nat) (a_6 : OA) (n_6 : Nat) (c_6 : Option Nat) (x_7 x_8 : Int) : LF := [(some (.v (.slice a_0 n_0 c_0))), oo, oo, oo, oo, oo, (some (.v (.slice a_6 n_6 c_6))), (some (.v (.int .i64 x_7))), (some (.v (.int .i64 x_8))), oo, oo, oo, oo, oo, oo, oo, oo, oo, oo, oo, oo, oo, oo]
def L23_1 (a_0 : OA) (n_0 : Nat) (c_0 : Option Nat) (a_6 : OA) (n_6 : Nat) (c_6 : Option Nat) (x_7 x_8 : Int) : LL := [oo, oo, oo, oo, oo, oo, oo, oo, oo, oo, oo, oo, oo, oo, oo, oo, oo, oo, oo, oo, oo, oo, oo]
theorem R23_1 (N : Nat) (call : CT) (self : K3) (a_0 : OA) (n_0 : Nat) (c_0 : Option Nat) (a_6 : OA) (n_6 : Nat) (c_6 : Option Nat) (x_7 x_8 : Int) (h : H) : F23_1 N call self (T23_1 a_0 n_0 c_0 a_6 n_6 c_6 x_7 x_8) (L23_1 a_0 n_0 c_0 a_6 n_6 c_6 x_7 x_8) h = S23_1 call (fun (a_0 : OA) (n_0 : Nat) (c_0 : Option Nat) (a_6 : OA) (n_6 : Nat) (c_6 : Option Nat) (x_7 x_8 : Int) h => self (T23_1 a_0 n_0 c_0 a_6 n_6 c_6 x_7 x_8) (L23_1 a_0 n_0 c_0 a_6 n_6 c_6 x_7 x_8) h) a_0 n_0 c_0 a_6 n_6 c_6 x_7 x_8 h := by kernel_rfl
theorem Q23_1 (N : Nat) (call : CT) (n : Nat) : ∀ (a_0 : OA) (n_0 : Nat) (c_0 : Option Nat) (a_6 : OA) (n_6 : Nat) (c_6 : Option Nat) (x_7 x_8 : Int) (h : H), (iter (F23_1 N call) n) (T23_1 a_0 n_0 c_0 a_6 n_6 c_6 x_7 x_8) (L23_1 a_0 n_0 c_0 a_6 n_6 c_6 x_7 x_8) h = I23_1 N call n a_0 n_0 c_0 a_6 n_6 c_6 x_7 x_8 h := by
  induction n with
  | zero => intros; exact (iter_zero _ _ _ _).trans (by kernel_rfl)
  | succ n ih =>
    intro a_0 n_0 c_0 a_6 n_6 c_6 x_7 x_8 h
    have e0 : (fun (a_0 : OA) (n_0 : Nat) (c_0 : Option Nat) (a_6 : OA) (n_6 : Nat) (c_6 : Option Nat) (x_7 x_8 : Int) h => (iter (F23_1 N call) n) (T23_1 a_0 n_0 c_0 a_6 n_6 c_6 x_7 x_8) (L23_1 a_0 n_0 c_0 a_6 n_6 c_6 x_7 x_8) h) = (I23_1 N call n) := by funext a_0 n_0 c_0 a_6 n_6 c_6 x_7 x_8 h; exact ih a_0 n_0 c_0 a_6 n_6 c_6 x_7 x_8 h
    have r := R23_1 N call (iter (F23_1 N call) n) a_0 n_0 c_0 a_6 n_6 c_6 x_7 x_8 h
    rw [e0] at r
    have g := iter_succ (F23_1 N call) n (T23_1 a_0 n_0 c_0 a_6 n_6 c_6 x_7 x_8) (L23_1 a_0 n_0 c_0 a_6 n_6 c_6 x_7 x_8) h
    have z : S23_1 call (I23_1 N call n) a_0 n_0 c_0 a_6 n_6 c_6 x_7 x_8 h = I23_1 N call (n + 1) a_0 n_0 c_0 a_6 n_6 c_6 x_7 x_8 h := by kernel_rfl
    exact g.trans (r.trans z)
theorem Z23_1 (N : Nat) (call : CT) (a_0 : OA) (n_0 : Nat) (c_0 : Option Nat) (a_6 : OA) (n_6 : Nat) (c_6 : Option Nat) (x_7 x_8 : Int) (h : H) : (E23_1 N call) (T23_1 a_0 n_0 c_0 a_6 n_6 c_6 x_7 x_8) (L23_1 a_0 n_0 c_0 a_6 n_6 c_6 x_7 x_8) h = C23_1 N call a_0 n_0 c_0 a_6 n_6 c_6 x_7 x_8 h := by
  have g : (E23_1 N call) (T23_1 a_0 n_0 c_0 a_6 n_6 c_6 x_7 x_8) (L23_1 a_0 n_0 c_0 a_6 n_6 c_6 x_7 x_8) h = iter (F23_1 N call) N (T23_1 a_0 n_0 c_0 a_6 n_6 c_6 x_7 x_8) (L23_1 a_0 n_0 c_0 a_6 n_6 c_6 x_7 x_8) h := by kernel_rfl
  have z : I23_1 N call N a_0 n_0 c_0 a_6 n_6 c_6 x_7 x_8 h = C23_1 N call a_0 n_0 c_0 a_6 n_6 c_6 x_7 x_8 h := by kernel_rfl
  exact g.trans ((Q23_1 N call N a_0 n_0 c_0 a_6 n_6 c_6 x_7 x_8 h).trans z)
theorem R23_0 (N : Nat) (call : CT) (y0 : AV) (h : H) : body Tryz.prog N call Tryz.f23 A23.an [y0] h = S23_0 call (fun (a_0 : OA) (n_0 : Nat) (c_0 : Option Nat) (a_6 : OA) (n_6 : Nat) (c_6 : Option Nat) (x_7 x_8 : Int) h => (E23_1 N call) (T23_1 a_0 n_0 c_0 a_6 n_6 c_6 x_7 x_8) (L23_1 a_0 n_0 c_0 a_6 n_6 c_6 x_7 x_8) h) y0 h := by kernel_rfl
theorem Z23 (N : Nat) (call : CT) (y0 : AV) (h : H) : body Tryz.prog N call Tryz.f23 A23.an [y0] h = S23 N call y0 h := by
  have e1 : (fun (a_0 : OA) (n_0 : Nat) (c_0 : Option Nat) (a_6 : OA) (n_6 : Nat) (c_6 : Option Nat) (x_7 x_8 : Int) h => (E23_1 N call) (T23_1 a_0 n_0 c_0 a_6 n_6 c_6 x_7 x_8) (L23_1 a_0 n_0 c_0 a_6 n_6 c_6 x_7 x_8) h) = (C23_1 N call) := by
    funext a_0 n_0 c_0 a_6 n_6 c_6 x_7 x_8 h
    exact Z23_1 N call a_0 n_0 c_0 a_6 n_6 c_6 x_7 x_8 h
  have r := R23_0 N call y0 h
  rw [e1] at r
  have z : S23_0 call (C23_1 N call) y0 h = S23 N call y0 h := by kernel_rfl
  exact r.trans z
theorem V23 (N : Nat) (call : CT) (vs : List AV) (h : H) : body Tryz.prog N call Tryz.f23 A23.an vs h = row1 (fun y0 => S23 N call y0 h) vs := wrap1 (by kernel_rfl) (fun y0 => Z23 N call y0 h) vs
/- (*sibyl/kinds.checker).pred -/
def A24.a0 : Ann := .items [.op 0, .op 1, .op 2]
def A24.a1 : Ann := .items [.op 0, .op 1, .op 2, .op 3, .op 4, .op 5]
def A24.a2 : Ann := .items [.op 0, .op 1, .op 2, .op 3]
def A24.a3 : Ann := .leaf
def A24.a4 : Ann := .two A24.a2 A24.a3
def A24.a5 : Ann := .leaf
def A24.a6 : Ann := .two A24.a4 A24.a5
def A24.a7 : Ann := .two A24.a1 A24.a6
def A24.a8 : Ann := .items [.op 0, .op 1, .op 2, .op 3, .op 4, .op 5, .op 6, .op 7]
def A24.a9 : Ann := .items [.op 0, .op 1]
def A24.a10 : Ann := .items [.op 0, .op 1, .op 2, .op 3]
def A24.a11 : Ann := .leaf
def A24.a12 : Ann := .two A24.a10 A24.a11
def A24.a13 : Ann := .leaf
def A24.a14 : Ann := .two A24.a12 A24.a13
def A24.a15 : Ann := .two A24.a9 A24.a14
def A24.a16 : Ann := .two A24.a8 A24.a15
def A24.a17 : Ann := .items [.op 0, .op 1, .op 2, .op 3, .op 4, .op 5, .op 6, .op 7, .op 8, .op 9]
def A24.a18 : Ann := .leaf
def A24.a19 : Ann := .two A24.a17 A24.a18
def A24.a20 : Ann := .two A24.a16 A24.a19
def A24.a21 : Ann := .two A24.a7 A24.a20
def A24.an : Ann := .two A24.a0 A24.a21
def S24_0 (call : CT) (y0 y1 : AV) (h : H) : R :=
  onPtr y0 (fun p1 => onAgR y1 (fun l10 => row8 (fun x2 x3 x4 x5 x6 x7 x8 x9 => newK h [x2, x3, x4, x5, x6, x7, x8, x9] (fun b11 h12 => onSome p1 (fun b13 o14 => ldK h12 b13 (o14 + 0) 1 (one (fun v15 => onSlice v15 (fun a16 n17 c18 => bindR (call 40 [(.slice a16 n17 c18), (.func 45 [] [(.ptr (some (b11, 0)))])] h12) (fun v19 h20 => onBool v19 (fun e21 => ifB e21 (ldK h20 b11 7 1 (one (fun v22 => onInt .i64 v22 (fun i23 => some (.tuple [(.int .i64 i23), (.int .i64 (Int.ofNat 6))], h20))))) (ldK h20 b11 1 1 (one (fun v24 => onSlice v24 (fun a25 n26 c27 => bindR (call 23 [(.slice a25 n26 c27)] h20) (fun v28 h29 => onTuple v28 0 (fun v30 => onInt .i64 v30 (fun i31 => onTuple v28 1 (fun v32 => onInt .i64 v32 (fun i33 => ifB (!eqI i33 (Int.ofNat 0)) (some (.tuple [(.int .i64 i31), (.int .i64 i33)], h29)) (ldK h29 b11 1 1 (one (fun v34 => onSlice v34 (fun a35 n36 c37 => ldK h29 b11 2 5 (fun l38 => row5 (fun x39 x40 x41 x42 x43 => bindR (call 25 [(.ptr p1), (.slice a35 n36 c37), (.agg [x39, x40, x41, x42, x43])] h29) (fun v44 h45 => onTuple v44 0 (fun v46 => onInt .i64 v46 (fun i47 => onTuple v44 1 (fun v48 => onInt .i64 v48 (fun i49 => some (.tuple [(.int .i64 i47), (.int .i64 i49)], h45))))))) l38)))))))))))))))))))))) l10))
def S24 (N : Nat) (call : CT) (y0 y1 : AV) (h : H) : R := S24_0 call y0 y1 h
theorem R24_0 (N : Nat) (call : CT) (y0 y1 : AV) (h : H) : body Tryz.prog N call Tryz.f24 A24.an [y0, y1] h = S24_0 call y0 y1 h := by kernel_rfl
theorem Z24 (N : Nat) (call : CT) (y0 y1 : AV) (h : H) : body Tryz.prog N call Tryz.f24 A24.an [y0, y1] h = S24 N call y0 y1 h := by
  have r := R24_0 N call y0 y1 h
  have z : S24_0 call y0 y1 h = S24 N call y0 y1 h := by kernel_rfl
  exact r.trans z
theorem V24 (N : Nat) (call : CT) (vs : List AV) (h : H) : body Tryz.prog N call Tryz.f24 A24.an vs h = row2 (fun y0 y1 => S24 N call y0 y1 h) vs := wrap2 (by kernel_rfl) (fun y0 y1 => Z24 N call y0 y1 h) vs
/- (*sibyl/kinds.checker).formula -/
def A25.a0 : Ann := .items [.opL 0, .op 1, .op 2]
def A25.a1 : Ann := .items [.op 0, .op 1]
def A25.a2 : Ann := .items [.op 0, .op 1]
def A25.a3 : Ann := .items [.op 0, .op 1, .op 2, .op 3]
def A25.a4 : Ann := .items [.op 0, .op 1]
def A25.a5 : Ann := .items [.op 0, .op 1, .op 2, .op 3]
def A25.a6 : Ann := .leaf
def A25.a7 : Ann := .two A25.a5 A25.a6
def A25.a8 : Ann := .items [.op 0, .op 1]
def A25.a9 : Ann := .items [.op 0, .op 1]
def A25.a10 : Ann := .leaf
def A25.a11 : Ann := .two A25.a9 A25.a10
def A25.a12 : Ann := .leaf
def A25.a13 : Ann := .two A25.a11 A25.a12
def A25.a14 : Ann := .two A25.a8 A25.a13
def A25.a15 : Ann := .two A25.a7 A25.a14
def A25.a16 : Ann := .two A25.a4 A25.a15
def A25.a17 : Ann := .one A25.a16
def A25.a18 : Ann := .two A25.a3 A25.a17
def A25.a19 : Ann := .items [.op 0, .op 1, .op 2, .op 3]
def A25.a20 : Ann := .leaf
def A25.a21 : Ann := .two A25.a19 A25.a20
def A25.a22 : Ann := .two A25.a18 A25.a21
def A25.a23 : Ann := .items [.op 0, .op 1]
def A25.a24 : Ann := .items [.op 0, .op 1, .op 2, .op 3, .op 4, .op 5, .op 6, .op 7]
def A25.a25 : Ann := .leaf
def A25.a26 : Ann := .two A25.a24 A25.a25
def A25.a27 : Ann := .items [.op 0, .op 1]
def A25.a28 : Ann := .leaf
def A25.a29 : Ann := .items [.op 0, .op 1]
def A25.a30 : Ann := .leaf
def A25.a31 : Ann := .items [.op 0, .op 1]
def A25.a32 : Ann := .leaf
def A25.a33 : Ann := .items [.op 0, .op 1]
def A25.a34 : Ann := .leaf
def A25.a35 : Ann := .items [.op 0, .op 1]
def A25.a36 : Ann := .leaf
def A25.a37 : Ann := .items [.op 0, .op 1]
def A25.a38 : Ann := .leaf
def A25.a39 : Ann := .items [.op 0, .op 1]
def A25.a40 : Ann := .two A25.a38 A25.a39
def A25.a41 : Ann := .two A25.a37 A25.a40
def A25.a42 : Ann := .two A25.a36 A25.a41
def A25.a43 : Ann := .two A25.a35 A25.a42
def A25.a44 : Ann := .two A25.a34 A25.a43
def A25.a45 : Ann := .two A25.a33 A25.a44
def A25.a46 : Ann := .two A25.a32 A25.a45
def A25.a47 : Ann := .two A25.a31 A25.a46
def A25.a48 : Ann := .two A25.a30 A25.a47
def A25.a49 : Ann := .two A25.a29 A25.a48
def A25.a50 : Ann := .two A25.a28 A25.a49
def A25.a51 : Ann := .two A25.a27 A25.a50
def A25.a52 : Ann := .items [.op 0, .op 1, .op 2, .op 3, .op 4, .op 5, .op 6, .op 7]
def A25.a53 : Ann := .leaf
def A25.a54 : Ann := .two A25.a52 A25.a53
def A25.a55 : Ann := .items [.op 0, .op 1]
def A25.a56 : Ann := .leaf
def A25.a57 : Ann := .items [.op 0, .op 1]
def A25.a58 : Ann := .two A25.a56 A25.a57
def A25.a59 : Ann := .two A25.a55 A25.a58
def A25.a60 : Ann := .drawn [.op 0, .op 1, .op 2, .op 3, .op 4, .op 5, .op 6, .opL 7, .op 8, .op 9]
def A25.a61 : Ann := .leaf
def A25.a62 : Ann := .two A25.a60 A25.a61
def A25.a63 : Ann := .join [0, 1, 5, 50] [5] A25.a59 A25.a62
def A25.a64 : Ann := .two A25.a54 A25.a63
def A25.a65 : Ann := .join [0, 1, 5, 13, 36] [5] A25.a51 A25.a64
def A25.a66 : Ann := .two A25.a26 A25.a65
def A25.a67 : Ann := .two A25.a23 A25.a66
def A25.a68 : Ann := .two A25.a22 A25.a67
def A25.a69 : Ann := .two A25.a2 A25.a68
def A25.a70 : Ann := .one A25.a69
def A25.a71 : Ann := .two A25.a1 A25.a70
def A25.a72 : Ann := .items [.op 0, .op 1, .op 2, .op 3]
def A25.a73 : Ann := .items [.op 0]
def A25.a74 : Ann := .leaf
def A25.a75 : Ann := .leaf
def A25.a76 : Ann := .two A25.a74 A25.a75
def A25.a77 : Ann := .items [.op 0, .op 1, .opL 2, .op 3]
def A25.a78 : Ann := .items [.op 0, .op 1, .op 2, .op 3, .op 4, .op 5, .op 6, .op 7, .op 8]
def A25.a79 : Ann := .items [.op 0, .op 1]
def A25.a80 : Ann := .items [.op 0, .op 1, .op 2, .op 3]
def A25.a81 : Ann := .leaf
def A25.a82 : Ann := .two A25.a80 A25.a81
def A25.a83 : Ann := .leaf
def A25.a84 : Ann := .two A25.a82 A25.a83
def A25.a85 : Ann := .two A25.a79 A25.a84
def A25.a86 : Ann := .two A25.a78 A25.a85
def A25.a87 : Ann := .two A25.a77 A25.a86
def A25.a88 : Ann := .one A25.a87
def A25.a89 : Ann := .items [.op 0, .op 1]
def A25.a90 : Ann := .two A25.a88 A25.a89
def A25.a91 : Ann := .two A25.a76 A25.a90
def A25.a92 : Ann := .two A25.a73 A25.a91
def A25.a93 : Ann := .meet [0, 1, 63, 64, 65] [] A25.a92
def A25.a94 : Ann := .one A25.a93
def A25.a95 : Ann := .two A25.a72 A25.a94
def A25.a96 : Ann := .items [.op 0, .op 1]
def A25.a97 : Ann := .leaf
def A25.a98 : Ann := .two A25.a96 A25.a97
def A25.a99 : Ann := .two A25.a95 A25.a98
def A25.a100 : Ann := .join [0, 1, 5] [5] A25.a71 A25.a99
def A25.an : Ann := .two A25.a0 A25.a100
def E25_1 (N : Nat) (call : CT) : K3 :=
  (codeK Tryz.prog N call (c2 (c2 (bodyOf Tryz.f25))) A25.a99 (resK Tryz.prog Tryz.f25.results.toList) (fun _ _ _ _ => none) (resK Tryz.prog Tryz.f25.results.toList))
def E25_2 (N : Nat) (call : CT) : K3 :=
  (codeK Tryz.prog N call (c2 (c2 (c2 (c2 (c2 (c1 (c2 (c1 (c2 (bodyOf Tryz.f25)))))))))) A25.a64 (fun T L h => (E25_1 N call) (keepT [0, 1, 5] T) (keepL [5] L) h) (fun i T L h => match Nat.beq i 0 with | true => (fun T L h => (E25_1 N call) (keepT [0, 1, 5] T) (keepL [5] L) h) T L h | false => (fun _ _ _ _ => none) i T L h) (resK Tryz.prog Tryz.f25.results.toList))
def E25_3 (N : Nat) (call : CT) : K3 :=
  (codeK Tryz.prog N call (c2 (c2 (c2 (c2 (c2 (c2 (c2 (c1 (c2 (c1 (c2 (bodyOf Tryz.f25)))))))))))) A25.a62 (fun T L h => (E25_1 N call) (keepT [0, 1, 5] T) (keepL [5] L) h) (fun i T L h => match Nat.beq i 0 with | true => (fun T L h => (E25_1 N call) (keepT [0, 1, 5] T) (keepL [5] L) h) T L h | false => (fun _ _ _ _ => none) i T L h) (resK Tryz.prog Tryz.f25.results.toList))
def F25_4 (N : Nat) (call : CT) (self : K3) : K3 :=
  (codeK Tryz.prog N call (c1 (c1 (c2 (c1 (c2 (c2 (bodyOf Tryz.f25))))))) A25.a92 (fun T L h => self (keepT [0, 1, 63, 64, 65] T) (keepL [] L) h) (fun i T L h => match Nat.beq i 2 with | true => (codeK Tryz.prog N call (c2 (c2 (c2 (bodyOf Tryz.f25)))) A25.a98 (resK Tryz.prog Tryz.f25.results.toList) (fun _ _ _ _ => none) (resK Tryz.prog Tryz.f25.results.toList)) T L h | false => (fun _ _ _ _ => none) i T L h) (resK Tryz.prog Tryz.f25.results.toList))
def E25_4 (N : Nat) (call : CT) : K3 := iter (F25_4 N call) N
def S25_1 (call : CT) (k4 : OA → OA → Nat → Option Nat → OA → Nat → Option Nat → Int → Int → H → R) (x_0 a_1 : OA) (n_1 : Nat) (c_1 : Option Nat) (l5_0 l5_1 : AV) (l5_2 l5_3 l5_4 : AV) (h : H) : R :=
  onSlice l5_4 (fun a1 n2 c3 => k4 x_0 a_1 n_1 c_1 a1 n2 c3 (Int.ofNat n2) (Int.ofNat 0) h)
def S25_2 (call : CT) (k3 : OA → OA → Nat → Option Nat → Bool → AV → AV → AV → AV → AV → H → R) (x_0 a_1 : OA) (n_1 : Nat) (c_1 : Option Nat) (x_13 : List Nat) (x_36 : Bool) (l5_0 l5_1 : AV) (l5_2 l5_3 l5_4 : AV) (h : H) : R :=
  ifB x_36 (bindR (call 47 [(.ptr x_0), (.slice a_1 n_1 c_1), (.agg [l5_0, l5_1, l5_2, l5_3, l5_4])] h) (fun v1 h2 => onTuple v1 0 (fun v3 => onInt .i64 v3 (fun i4 => onTuple v1 1 (fun v5 => onInt .i64 v5 (fun i6 => some (.tuple [(.int .i64 i4), (.int .i64 i6)], h2))))))) (ifB (eqS x_13 [101, 120]) (k3 x_0 a_1 n_1 c_1 (eqS x_13 [101, 120]) l5_0 l5_1 l5_2 l5_3 l5_4 h) (k3 x_0 a_1 n_1 c_1 (eqS x_13 [97, 108, 108]) l5_0 l5_1 l5_2 l5_3 l5_4 h))
def S25_3 (call : CT) (k1 : OA → OA → Nat → Option Nat → AV → AV → AV → AV → AV → H → R) (x_0 a_1 : OA) (n_1 : Nat) (c_1 : Option Nat) (x_50 : Bool) (l5_0 l5_1 : AV) (l5_2 l5_3 l5_4 : AV) (h : H) : R :=
  ifB x_50 (bindR (call 48 [(.slice a_1 n_1 c_1)] h) (fun v1 h2 => onSlice v1 (fun a3 n4 c5 => guardB (sameAV l5_1 l5_1) (onStr l5_1 (fun s6 => guardB (sameAV l5_2 l5_2) (onInt .i64 l5_2 (fun i7 => appL h2 3 a3 n4 c5 1 [(.str s6), (.int .i64 i7), (.int .i64 (Int.ofNat 0))] (fun a8 n9 c10 h11 => k1 x_0 a8 n9 c10 l5_0 l5_1 l5_2 l5_3 l5_4 h11)))))))) (k1 x_0 a_1 n_1 c_1 l5_0 l5_1 l5_2 l5_3 l5_4 h)
def S25_4 (call : CT) (k4 : OA → OA → Nat → Option Nat → OA → Nat → Option Nat → Int → Int → H → R) (x_0 a_1 : OA) (n_1 : Nat) (c_1 : Option Nat) (a_63 : OA) (n_63 : Nat) (c_63 : Option Nat) (x_64 x_65 : Int) (h : H) : R :=
  ifB (ltI x_65 x_64) (idxAddr 5 a_63 n_63 x_65 (fun b1 o2 => ldK h b1 o2 5 (fun l3 => row5 (fun x4 x5 x6 x7 x8 => bindR (call 25 [(.ptr x_0), (.slice a_1 n_1 c_1), (.agg [x4, x5, x6, x7, x8])] h) (fun v9 h10 => onTuple v9 0 (fun v11 => onInt .i64 v11 (fun i12 => onTuple v9 1 (fun v13 => onInt .i64 v13 (fun i14 => ifB (!eqI i14 (Int.ofNat 0)) (some (.tuple [(.int .i64 i12), (.int .i64 i14)], h10)) (k4 x_0 a_1 n_1 c_1 a_63 n_63 c_63 x_64 (wrapF .i64 (Int.add x_65 (Int.ofNat 1))) h10))))))) l3))) (some (.tuple [(.int .i64 (Int.ofNat 0)), (.int .i64 (Int.ofNat 0))], h))
def S25_0 (call : CT) (k2 : OA → OA → Nat → Option Nat → List Nat → Bool → AV → AV → AV → AV → AV → H → R) (y0 y1 y2 : AV) (h : H) : R :=
  onPtr y0 (fun p1 => onSlice y1 (fun a2 n3 c4 => onAgR y2 (fun l10 => row5 (fun x5 x6 x7 x8 x9 => onStr x5 (fun s11 => ifB (eqS s11 [105, 115]) (onStr x6 (fun s12 => bindR (call 44 [(.slice a2 n3 c4), (.str s12)] h) (fun v13 h14 => onInt .i64 v13 (fun i15 => ifB (eqI i15 (Int.negSucc 0)) (onInt .i64 x8 (fun i16 => some (.tuple [(.int .i64 i16), (.int .i64 (Int.ofNat 5))], h14))) (ifB (eqI i15 (Int.ofNat 0)) (some (.tuple [(.int .i64 (Int.ofNat 0)), (.int .i64 (Int.ofNat 0))], h14)) (onInt .i64 x8 (fun i17 => some (.tuple [(.int .i64 i17), (.int .i64 (Int.ofNat 7))], h14)))))))) (ifB (eqS s11 [99, 97, 108, 108]) (bindR (call 46 [(.ptr p1), (.slice a2 n3 c4), (.agg [x5, x6, x7, x8, x9])] h) (fun v18 h19 => onTuple v18 0 (fun v20 => onInt .i64 v20 (fun i21 => onTuple v18 1 (fun v22 => onInt .i64 v22 (fun i23 => some (.tuple [(.int .i64 i21), (.int .i64 i23)], h19))))))) (ifB (eqS s11 [101, 113]) (k2 p1 a2 n3 c4 s11 (eqS s11 [101, 113]) x5 x6 x7 x8 x9 h) (ifB (eqS s11 [110, 101]) (k2 p1 a2 n3 c4 s11 (eqS s11 [110, 101]) x5 x6 x7 x8 x9 h) (ifB (eqS s11 [108, 116]) (k2 p1 a2 n3 c4 s11 (eqS s11 [108, 116]) x5 x6 x7 x8 x9 h) (ifB (eqS s11 [108, 101]) (k2 p1 a2 n3 c4 s11 (eqS s11 [108, 101]) x5 x6 x7 x8 x9 h) (ifB (eqS s11 [105, 110]) (k2 p1 a2 n3 c4 s11 (eqS s11 [105, 110]) x5 x6 x7 x8 x9 h) (ifB (eqS s11 [110, 111, 116, 105, 110]) (k2 p1 a2 n3 c4 s11 (eqS s11 [110, 111, 116, 105, 110]) x5 x6 x7 x8 x9 h) (k2 p1 a2 n3 c4 s11 (eqS s11 [115, 117, 98]) x5 x6 x7 x8 x9 h)))))))))) l10)))
def B25_4 (N : Nat) (call : CT) (ih : OA → OA → Nat → Option Nat → OA → Nat → Option Nat → Int → Int → H → R) : OA → OA → Nat → Option Nat → OA → Nat → Option Nat → Int → Int → H → R := S25_4 call ih
def I25_4 (N : Nat) (call : CT) (n : Nat) : OA → OA → Nat → Option Nat → OA → Nat → Option Nat → Int → Int → H → R := Nat.rec (motive := fun _ => OA → OA → Nat → Option Nat → OA → Nat → Option Nat → Int → Int → H → R) (fun _ _ _ _ _ _ _ _ _ _ => none) (fun _ ih => B25_4 N call ih) n
def C25_4 (N : Nat) (call : CT) : OA → OA → Nat → Option Nat → OA → Nat → Option Nat → Int → Int → H → R := I25_4 N call N
def C25_1 (N : Nat) (call : CT) : OA → OA → Nat → Option Nat → AV → AV → AV → AV → AV → H → R := S25_1 call (C25_4 N call)
def C25_3 (N : Nat) (call : CT) : OA → OA → Nat → Option Nat → Bool → AV → AV → AV → AV → AV → H → R := S25_3 call (C25_1 N call)
def C25_2 (N : Nat) (call : CT) : OA → OA → Nat → Option Nat → List Nat → Bool → AV → AV → AV → AV → AV → H → R := S25_2 call (C25_3 N call)
def S25 (N : Nat) (call : CT) (y0 y1 y2 : AV) (h : H) : R := S25_0 call (C25_2 N call) y0 y1 y2 h
def T25_1 (x_0 a_1 : OA) (n_1 : Nat) (c_1 : Option Nat) (l5_0 l5_1 : AV) (l5_2 l5_3 l5_4 : AV) : LF := [(some (.v (.ptr x_0))), (some (.v (.slice a_1 n_1 c_1))), oo, oo, oo, (some (.lptr 5 0)), oo, oo, oo, oo, oo, oo, oo, oo, oo, oo, oo, oo, oo, oo, oo, oo, oo, oo, oo, oo, oo, oo, oo, oo, oo, oo, oo, oo, oo, oo, oo, oo, oo, oo, oo, oo, oo, oo, oo, oo, oo, oo, oo, oo, oo, oo, oo, oo, oo, oo, oo, oo, oo, oo, oo, oo, oo, oo, oo, oo, oo, oo, oo, oo, oo, oo, oo, oo, oo, oo, oo, oo, oo, oo, oo]
def L25_1 (x_0 a_1 : OA) (n_1 : Nat) (c_1 : Option Nat) (l5_0 l5_1 : AV) (l5_2 l5_3 l5_4 : AV) : LL := [oo, oo, oo, oo, oo, (some (.cells [l5_0, l5_1, l5_2, l5_3, l5_4])), oo, oo, oo, oo, oo, oo, oo, oo, oo, oo, oo, oo, oo, oo, oo, oo, oo, oo, oo, oo, oo, oo, oo, oo, oo, oo, oo, oo, oo, oo, oo, oo, oo, oo, oo, oo, oo, oo, oo, oo, oo, oo, oo, oo, oo, oo, oo, oo, oo, oo, oo, oo, oo, oo, oo, oo, oo, oo, oo, oo, oo, oo, oo, oo, oo, oo, oo, oo, oo, oo, oo, oo, oo, oo, oo]
def T25_2 (x_0 a_1 : OA) (n_1 : Nat) (c_1 : Option Nat) (x_13 : List Nat) (x_36 : Bool) (l5_0 l5_1 : AV) (l5_2 l5_3 l5_4 : AV) : LF := [(some (.v (.ptr x_0))), (some (.v (.slice a_1 n_1 c_1))), oo, oo, oo, (some (.lptr 5 0)), oo, oo, oo, oo, oo, oo, oo, (some (.v (.str x_13))), oo, oo, oo, oo, oo, oo, oo, oo, oo, oo, oo, oo, oo, oo, oo, oo, oo, oo, oo, oo, oo, oo, (some (.v (.bool x_36))), oo, oo, oo, oo, oo, oo, oo, oo, oo, oo, oo, oo, oo, oo, oo, oo, oo, oo, oo, oo, oo, oo, oo, oo, oo, oo, oo, oo, oo, oo, oo, oo, oo, oo, oo, oo, oo, oo, oo, oo, oo, oo, oo, oo]
def L25_2 (x_0 a_1 : OA) (n_1 : Nat) (c_1 : Option Nat) (x_13 : List Nat) (x_36 : Bool) (l5_0 l5_1 : AV) (l5_2 l5_3 l5_4 : AV) : LL := [oo, oo, oo, oo, oo, (some (.cells [l5_0, l5_1, l5_2, l5_3, l5_4])), oo, oo, oo, oo, oo, oo, oo, oo, oo, oo, oo, oo, oo, oo, oo, oo, oo, oo, oo, oo, oo, oo, oo, oo, oo, oo, oo, oo, oo, oo, oo, oo, oo, oo, oo, oo, oo, oo, oo, oo, oo, oo, oo, oo, oo, oo, oo, oo, oo, oo, oo, oo, oo, oo, oo, oo, oo, oo, oo, oo, oo, oo, oo, oo, oo, oo, oo, oo, oo, oo, oo, oo, oo, oo, oo]
def T25_3 (x_0 a_1 : OA) (n_1 : Nat) (c_1 : Option Nat) (x_50 : Bool) (l5_0 l5_1 : AV) (l5_2 l5_3 l5_4 : AV) : LF := [(some (.v (.ptr x_0))), (some (.v (.slice a_1 n_1 c_1))), oo, oo, oo, (some (.lptr 5 0)), oo, oo, oo, oo, oo, oo, oo, oo, oo, oo, oo, oo, oo, oo, oo, oo, oo, oo, oo, oo, oo, oo, oo, oo, oo, oo, oo, oo, oo, oo, oo, oo, oo, oo, oo, oo, oo, oo, oo, oo, oo, oo, oo, oo, (some (.v (.bool x_50))), oo, oo, oo, oo, oo, oo, oo, oo, oo, oo, oo, oo, oo, oo, oo, oo, oo, oo, oo, oo, oo, oo, oo, oo, oo, oo, oo, oo, oo, oo]
def L25_3 (x_0 a_1 : OA) (n_1 : Nat) (c_1 : Option Nat) (x_50 : Bool) (l5_0 l5_1 : AV) (l5_2 l5_3 l5_4 : AV) : LL := [oo, oo, oo, oo, oo, (some (.cells [l5_0, l5_1, l5_2, l5_3, l5_4])), oo, oo, oo, oo, oo, oo, oo, oo, oo, oo, oo, oo, oo, oo, oo, oo, oo, oo, oo, oo, oo, oo, oo, oo, oo, oo, oo, oo, oo, oo, oo, oo, oo, oo, oo, oo, oo, oo, oo, oo, oo, oo, oo, oo, oo, oo, oo, oo, oo, oo, oo, oo, oo, oo, oo, oo, oo, oo, oo, oo, oo, oo, oo, oo, oo, oo, oo, oo, oo, oo, oo, oo, oo, oo, oo]
def T25_4 (x_0 a_1 : OA) (n_1 : Nat) (c_1 : Option Nat) (a_63 : OA) (n_63 : Nat) (c_63 : Option Nat) (x_64 x_65 : Int) : LF := [(some (.v (.ptr x_0))), (some (.v (.slice a_1 n_1 c_1))), oo, oo, oo, oo, oo, oo, oo, oo, oo, oo, oo, oo, oo, oo, oo, oo, oo, oo, oo, oo, oo, oo, oo, oo, oo, oo, oo, oo, oo, oo, oo, oo, oo, oo, oo, oo, oo, oo, oo, oo, oo, oo, oo, oo, oo, oo, oo, oo, oo, oo, oo, oo, oo, oo, oo, oo, oo, oo, oo, oo, oo, (some (.v (.slice a_63 n_63 c_63))), (some (.v (.int .i64 x_64))), (some (.v (.int .i64 x_65))), oo, oo, oo, oo, oo, oo, oo, oo, oo, oo, oo, oo, oo, oo, oo]
def L25_4 (x_0 a_1 : OA) (n_1 : Nat) (c_1 : Option Nat) (a_63 : OA) (n_63 : Nat) (c_63 : Option Nat) (x_64 x_65 : Int) : LL := [oo, oo, oo, oo, oo, oo, oo, oo, oo, oo, oo, oo, oo, oo, oo, oo, oo, oo, oo, oo, oo, oo, oo, oo, oo, oo, oo, oo, oo, oo, oo, oo, oo, oo, oo, oo, oo, oo, oo, oo, oo, oo, oo, oo, oo, oo, oo, oo, oo, oo, oo, oo, oo, oo, oo, oo, oo, oo, oo, oo, oo, oo, oo, oo, oo, oo, oo, oo, oo, oo, oo, oo, oo, oo, oo, oo, oo, oo, oo, oo, oo]
theorem R25_4 (N : Nat) (call : CT) (self : K3) (x_0 a_1 : OA) (n_1 : Nat) (c_1 : Option Nat) (a_63 : OA) (n_63 : Nat) (c_63 : Option Nat) (x_64 x_65 : Int) (h : H) : F25_4 N call self (T25_4 x_0 a_1 n_1 c_1 a_63 n_63 c_63 x_64 x_65) (L25_4 x_0 a_1 n_1 c_1 a_63 n_63 c_63 x_64 x_65) h = S25_4 call (fun (x_0 a_1 : OA) (n_1 : Nat) (c_1 : Option Nat) (a_63 : OA) (n_63 : Nat) (c_63 : Option Nat) (x_64 x_65 : Int) h => self (T25_4 x_0 a_1 n_1 c_1 a_63 n_63 c_63 x_64 x_65) (L25_4 x_0 a_1 n_1 c_1 a_63 n_63 c_63 x_64 x_65) h) x_0 a_1 n_1 c_1 a_63 n_63 c_63 x_64 x_65 h := by kernel_rfl
theorem Q25_4 (N : Nat) (call : CT) (n : Nat) : ∀ (x_0 a_1 : OA) (n_1 : Nat) (c_1 : Option Nat) (a_63 : OA) (n_63 : Nat) (c_63 : Option Nat) (x_64 x_65 : Int) (h : H), (iter (F25_4 N call) n) (T25_4 x_0 a_1 n_1 c_1 a_63 n_63 c_63 x_64 x_65) (L25_4 x_0 a_1 n_1 c_1 a_63 n_63 c_63 x_64 x_65) h = I25_4 N call n x_0 a_1 n_1 c_1 a_63 n_63 c_63 x_64 x_65 h := by
  induction n with
  | zero => intros; exact (iter_zero _ _ _ _).trans (by kernel_rfl)
  | succ n ih =>
    intro x_0 a_1 n_1 c_1 a_63 n_63 c_63 x_64 x_65 h
    have e0 : (fun (x_0 a_1 : OA) (n_1 : Nat) (c_1 : Option Nat) (a_63 : OA) (n_63 : Nat) (c_63 : Option Nat) (x_64 x_65 : Int) h => (iter (F25_4 N call) n) (T25_4 x_0 a_1 n_1 c_1 a_63 n_63 c_63 x_64 x_65) (L25_4 x_0 a_1 n_1 c_1 a_63 n_63 c_63 x_64 x_65) h) = (I25_4 N call n) := by funext x_0 a_1 n_1 c_1 a_63 n_63 c_63 x_64 x_65 h; exact ih x_0 a_1 n_1 c_1 a_63 n_63 c_63 x_64 x_65 h
    have r := R25_4 N call (iter (F25_4 N call) n) x_0 a_1 n_1 c_1 a_63 n_63 c_63 x_64 x_65 h
    rw [e0] at r
    have g := iter_succ (F25_4 N call) n (T25_4 x_0 a_1 n_1 c_1 a_63 n_63 c_63 x_64 x_65) (L25_4 x_0 a_1 n_1 c_1 a_63 n_63 c_63 x_64 x_65) h
    have z : S25_4 call (I25_4 N call n) x_0 a_1 n_1 c_1 a_63 n_63 c_63 x_64 x_65 h = I25_4 N call (n + 1) x_0 a_1 n_1 c_1 a_63 n_63 c_63 x_64 x_65 h := by kernel_rfl
    exact g.trans (r.trans z)
theorem Z25_4 (N : Nat) (call : CT) (x_0 a_1 : OA) (n_1 : Nat) (c_1 : Option Nat) (a_63 : OA) (n_63 : Nat) (c_63 : Option Nat) (x_64 x_65 : Int) (h : H) : (E25_4 N call) (T25_4 x_0 a_1 n_1 c_1 a_63 n_63 c_63 x_64 x_65) (L25_4 x_0 a_1 n_1 c_1 a_63 n_63 c_63 x_64 x_65) h = C25_4 N call x_0 a_1 n_1 c_1 a_63 n_63 c_63 x_64 x_65 h := by
  have g : (E25_4 N call) (T25_4 x_0 a_1 n_1 c_1 a_63 n_63 c_63 x_64 x_65) (L25_4 x_0 a_1 n_1 c_1 a_63 n_63 c_63 x_64 x_65) h = iter (F25_4 N call) N (T25_4 x_0 a_1 n_1 c_1 a_63 n_63 c_63 x_64 x_65) (L25_4 x_0 a_1 n_1 c_1 a_63 n_63 c_63 x_64 x_65) h := by kernel_rfl
  have z : I25_4 N call N x_0 a_1 n_1 c_1 a_63 n_63 c_63 x_64 x_65 h = C25_4 N call x_0 a_1 n_1 c_1 a_63 n_63 c_63 x_64 x_65 h := by kernel_rfl
  exact g.trans ((Q25_4 N call N x_0 a_1 n_1 c_1 a_63 n_63 c_63 x_64 x_65 h).trans z)
theorem R25_1 (N : Nat) (call : CT) (x_0 a_1 : OA) (n_1 : Nat) (c_1 : Option Nat) (l5_0 l5_1 : AV) (l5_2 l5_3 l5_4 : AV) (h : H) : E25_1 N call (T25_1 x_0 a_1 n_1 c_1 l5_0 l5_1 l5_2 l5_3 l5_4) (L25_1 x_0 a_1 n_1 c_1 l5_0 l5_1 l5_2 l5_3 l5_4) h = S25_1 call (fun (x_0 a_1 : OA) (n_1 : Nat) (c_1 : Option Nat) (a_63 : OA) (n_63 : Nat) (c_63 : Option Nat) (x_64 x_65 : Int) h => (E25_4 N call) (T25_4 x_0 a_1 n_1 c_1 a_63 n_63 c_63 x_64 x_65) (L25_4 x_0 a_1 n_1 c_1 a_63 n_63 c_63 x_64 x_65) h) x_0 a_1 n_1 c_1 l5_0 l5_1 l5_2 l5_3 l5_4 h := by kernel_rfl
theorem Z25_1 (N : Nat) (call : CT) (x_0 a_1 : OA) (n_1 : Nat) (c_1 : Option Nat) (l5_0 l5_1 : AV) (l5_2 l5_3 l5_4 : AV) (h : H) : E25_1 N call (T25_1 x_0 a_1 n_1 c_1 l5_0 l5_1 l5_2 l5_3 l5_4) (L25_1 x_0 a_1 n_1 c_1 l5_0 l5_1 l5_2 l5_3 l5_4) h = C25_1 N call x_0 a_1 n_1 c_1 l5_0 l5_1 l5_2 l5_3 l5_4 h := by
  have e4 : (fun (x_0 a_1 : OA) (n_1 : Nat) (c_1 : Option Nat) (a_63 : OA) (n_63 : Nat) (c_63 : Option Nat) (x_64 x_65 : Int) h => (E25_4 N call) (T25_4 x_0 a_1 n_1 c_1 a_63 n_63 c_63 x_64 x_65) (L25_4 x_0 a_1 n_1 c_1 a_63 n_63 c_63 x_64 x_65) h) = (C25_4 N call) := by
    funext x_0 a_1 n_1 c_1 a_63 n_63 c_63 x_64 x_65 h
    exact Z25_4 N call x_0 a_1 n_1 c_1 a_63 n_63 c_63 x_64 x_65 h
  have r := R25_1 N call x_0 a_1 n_1 c_1 l5_0 l5_1 l5_2 l5_3 l5_4 h
  rw [e4] at r
  have z : S25_1 call (C25_4 N call) x_0 a_1 n_1 c_1 l5_0 l5_1 l5_2 l5_3 l5_4 h = C25_1 N call x_0 a_1 n_1 c_1 l5_0 l5_1 l5_2 l5_3 l5_4 h := by kernel_rfl
  exact r.trans z
theorem R25_3 (N : Nat) (call : CT) (x_0 a_1 : OA) (n_1 : Nat) (c_1 : Option Nat) (x_50 : Bool) (l5_0 l5_1 : AV) (l5_2 l5_3 l5_4 : AV) (h : H) : E25_3 N call (T25_3 x_0 a_1 n_1 c_1 x_50 l5_0 l5_1 l5_2 l5_3 l5_4) (L25_3 x_0 a_1 n_1 c_1 x_50 l5_0 l5_1 l5_2 l5_3 l5_4) h = S25_3 call (fun (x_0 a_1 : OA) (n_1 : Nat) (c_1 : Option Nat) (l5_0 l5_1 : AV) (l5_2 l5_3 l5_4 : AV) h => (E25_1 N call) (T25_1 x_0 a_1 n_1 c_1 l5_0 l5_1 l5_2 l5_3 l5_4) (L25_1 x_0 a_1 n_1 c_1 l5_0 l5_1 l5_2 l5_3 l5_4) h) x_0 a_1 n_1 c_1 x_50 l5_0 l5_1 l5_2 l5_3 l5_4 h := by kernel_rfl
theorem Z25_3 (N : Nat) (call : CT) (x_0 a_1 : OA) (n_1 : Nat) (c_1 : Option Nat) (x_50 : Bool) (l5_0 l5_1 : AV) (l5_2 l5_3 l5_4 : AV) (h : H) : E25_3 N call (T25_3 x_0 a_1 n_1 c_1 x_50 l5_0 l5_1 l5_2 l5_3 l5_4) (L25_3 x_0 a_1 n_1 c_1 x_50 l5_0 l5_1 l5_2 l5_3 l5_4) h = C25_3 N call x_0 a_1 n_1 c_1 x_50 l5_0 l5_1 l5_2 l5_3 l5_4 h := by
  have e1 : (fun (x_0 a_1 : OA) (n_1 : Nat) (c_1 : Option Nat) (l5_0 l5_1 : AV) (l5_2 l5_3 l5_4 : AV) h => (E25_1 N call) (T25_1 x_0 a_1 n_1 c_1 l5_0 l5_1 l5_2 l5_3 l5_4) (L25_1 x_0 a_1 n_1 c_1 l5_0 l5_1 l5_2 l5_3 l5_4) h) = (C25_1 N call) := by
    funext x_0 a_1 n_1 c_1 l5_0 l5_1 l5_2 l5_3 l5_4 h
    exact Z25_1 N call x_0 a_1 n_1 c_1 l5_0 l5_1 l5_2 l5_3 l5_4 h
  have r := R25_3 N call x_0 a_1 n_1 c_1 x_50 l5_0 l5_1 l5_2 l5_3 l5_4 h
  rw [e1] at r
  have z : S25_3 call (C25_1 N call) x_0 a_1 n_1 c_1 x_50 l5_0 l5_1 l5_2 l5_3 l5_4 h = C25_3 N call x_0 a_1 n_1 c_1 x_50 l5_0 l5_1 l5_2 l5_3 l5_4 h := by kernel_rfl
  exact r.trans z
theorem R25_2 (N : Nat) (call : CT) (x_0 a_1 : OA) (n_1 : Nat) (c_1 : Option Nat) (x_13 : List Nat) (x_36 : Bool) (l5_0 l5_1 : AV) (l5_2 l5_3 l5_4 : AV) (h : H) : E25_2 N call (T25_2 x_0 a_1 n_1 c_1 x_13 x_36 l5_0 l5_1 l5_2 l5_3 l5_4) (L25_2 x_0 a_1 n_1 c_1 x_13 x_36 l5_0 l5_1 l5_2 l5_3 l5_4) h = S25_2 call (fun (x_0 a_1 : OA) (n_1 : Nat) (c_1 : Option Nat) (x_50 : Bool) (l5_0 l5_1 : AV) (l5_2 l5_3 l5_4 : AV) h => (E25_3 N call) (T25_3 x_0 a_1 n_1 c_1 x_50 l5_0 l5_1 l5_2 l5_3 l5_4) (L25_3 x_0 a_1 n_1 c_1 x_50 l5_0 l5_1 l5_2 l5_3 l5_4) h) x_0 a_1 n_1 c_1 x_13 x_36 l5_0 l5_1 l5_2 l5_3 l5_4 h := by kernel_rfl
theorem Z25_2 (N : Nat) (call : CT) (x_0 a_1 : OA) (n_1 : Nat) (c_1 : Option Nat) (x_13 : List Nat) (x_36 : Bool) (l5_0 l5_1 : AV) (l5_2 l5_3 l5_4 : AV) (h : H) : E25_2 N call (T25_2 x_0 a_1 n_1 c_1 x_13 x_36 l5_0 l5_1 l5_2 l5_3 l5_4) (L25_2 x_0 a_1 n_1 c_1 x_13 x_36 l5_0 l5_1 l5_2 l5_3 l5_4) h = C25_2 N call x_0 a_1 n_1 c_1 x_13 x_36 l5_0 l5_1 l5_2 l5_3 l5_4 h := by
  have e3 : (fun (x_0 a_1 : OA) (n_1 : Nat) (c_1 : Option Nat) (x_50 : Bool) (l5_0 l5_1 : AV) (l5_2 l5_3 l5_4 : AV) h => (E25_3 N call) (T25_3 x_0 a_1 n_1 c_1 x_50 l5_0 l5_1 l5_2 l5_3 l5_4) (L25_3 x_0 a_1 n_1 c_1 x_50 l5_0 l5_1 l5_2 l5_3 l5_4) h) = (C25_3 N call) := by
    funext x_0 a_1 n_1 c_1 x_50 l5_0 l5_1 l5_2 l5_3 l5_4 h
    exact Z25_3 N call x_0 a_1 n_1 c_1 x_50 l5_0 l5_1 l5_2 l5_3 l5_4 h
  have r := R25_2 N call x_0 a_1 n_1 c_1 x_13 x_36 l5_0 l5_1 l5_2 l5_3 l5_4 h
  rw [e3] at r
  have z : S25_2 call (C25_3 N call) x_0 a_1 n_1 c_1 x_13 x_36 l5_0 l5_1 l5_2 l5_3 l5_4 h = C25_2 N call x_0 a_1 n_1 c_1 x_13 x_36 l5_0 l5_1 l5_2 l5_3 l5_4 h := by kernel_rfl
  exact r.trans z
theorem R25_0 (N : Nat) (call : CT) (y0 y1 y2 : AV) (h : H) : body Tryz.prog N call Tryz.f25 A25.an [y0, y1, y2] h = S25_0 call (fun (x_0 a_1 : OA) (n_1 : Nat) (c_1 : Option Nat) (x_13 : List Nat) (x_36 : Bool) (l5_0 l5_1 : AV) (l5_2 l5_3 l5_4 : AV) h => (E25_2 N call) (T25_2 x_0 a_1 n_1 c_1 x_13 x_36 l5_0 l5_1 l5_2 l5_3 l5_4) (L25_2 x_0 a_1 n_1 c_1 x_13 x_36 l5_0 l5_1 l5_2 l5_3 l5_4) h) y0 y1 y2 h := by kernel_rfl
theorem Z25 (N : Nat) (call : CT) (y0 y1 y2 : AV) (h : H) : body Tryz.prog N call Tryz.f25 A25.an [y0, y1, y2] h = S25 N call y0 y1 y2 h := by
  have e2 : (fun (x_0 a_1 : OA) (n_1 : Nat) (c_1 : Option Nat) (x_13 : List Nat) (x_36 : Bool) (l5_0 l5_1 : AV) (l5_2 l5_3 l5_4 : AV) h => (E25_2 N call) (T25_2 x_0 a_1 n_1 c_1 x_13 x_36 l5_0 l5_1 l5_2 l5_3 l5_4) (L25_2 x_0 a_1 n_1 c_1 x_13 x_36 l5_0 l5_1 l5_2 l5_3 l5_4) h) = (C25_2 N call) := by
    funext x_0 a_1 n_1 c_1 x_13 x_36 l5_0 l5_1 l5_2 l5_3 l5_4 h
    exact Z25_2 N call x_0 a_1 n_1 c_1 x_13 x_36 l5_0 l5_1 l5_2 l5_3 l5_4 h
  have r := R25_0 N call y0 y1 y2 h
  rw [e2] at r
  have z : S25_0 call (C25_2 N call) y0 y1 y2 h = S25 N call y0 y1 y2 h := by kernel_rfl
  exact r.trans z
theorem V25 (N : Nat) (call : CT) (vs : List AV) (h : H) : body Tryz.prog N call Tryz.f25 A25.an vs h = row3 (fun y0 y1 y2 => S25 N call y0 y1 y2 h) vs := wrap3 (by kernel_rfl) (fun y0 y1 y2 => Z25 N call y0 y1 y2 h) vs
/- (*sibyl/macro.expander).node -/
def A26.a0 : Ann := .items [.opL 0, .opL 1, .op 2]
def A26.a1 : Ann := .items [.op 0, .op 1, .op 2]
def A26.a2 : Ann := .items [.op 0, .op 1, .op 2, .op 3]
def A26.a3 : Ann := .drawn [.op 4, .op 5, .op 0, .op 1, .op 2, .op 3, .op 6, .op 7, .op 8, .op 9]
def A26.a4 : Ann := .drawn [.op 0, .op 6, .op 1, .op 2, .op 3, .op 4, .op 5, .op 7]
def A26.a5 : Ann := .leaf
def A26.a6 : Ann := .two A26.a4 A26.a5
def A26.a7 : Ann := .two A26.a3 A26.a6
def A26.a8 : Ann := .two A26.a2 A26.a7
def A26.a9 : Ann := .leaf
def A26.a10 : Ann := .two A26.a8 A26.a9
def A26.a11 : Ann := .two A26.a1 A26.a10
def A26.a12 : Ann := .items [.op 0, .op 1, .op 2, .op 3, .op 4, .op 5, .op 6, .op 7]
def A26.a13 : Ann := .items [.op 0, .op 1, .op 2, .op 3, .op 4]
def A26.a14 : Ann := .items [.op 0, .op 1, .op 2]
def A26.a15 : Ann := .leaf
def A26.a16 : Ann := .two A26.a14 A26.a15
def A26.a17 : Ann := .leaf
def A26.a18 : Ann := .two A26.a16 A26.a17
def A26.a19 : Ann := .two A26.a13 A26.a18
def A26.a20 : Ann := .items [.op 0]
def A26.a21 : Ann := .items [.op 0, .op 1, .op 2, .op 3]
def A26.a22 : Ann := .items [.op 0]
def A26.a23 : Ann := .leaf
def A26.a24 : Ann := .leaf
def A26.a25 : Ann := .two A26.a23 A26.a24
def A26.a26 : Ann := .items [.op 0, .op 1, .opL 2, .op 3]
def A26.a27 : Ann := .items [.op 0, .op 1, .op 2, .op 3, .op 4, .op 5, .opL 6, .op 7, .op 8]
def A26.a28 : Ann := .items [.op 0, .op 1]
def A26.a29 : Ann := .items [.op 0, .op 1, .op 2]
def A26.a30 : Ann := .leaf
def A26.a31 : Ann := .two A26.a29 A26.a30
def A26.a32 : Ann := .leaf
def A26.a33 : Ann := .two A26.a31 A26.a32
def A26.a34 : Ann := .two A26.a28 A26.a33
def A26.a35 : Ann := .items [.op 0, .op 1, .opL 2, .op 3, .op 4]
def A26.a36 : Ann := .two A26.a34 A26.a35
def A26.a37 : Ann := .two A26.a27 A26.a36
def A26.a38 : Ann := .two A26.a26 A26.a37
def A26.a39 : Ann := .one A26.a38
def A26.a40 : Ann := .items [.op 0, .op 1]
def A26.a41 : Ann := .two A26.a39 A26.a40
def A26.a42 : Ann := .two A26.a25 A26.a41
def A26.a43 : Ann := .two A26.a22 A26.a42
def A26.a44 : Ann := .meet [0, 3, 4, 6, 46, 47, 48] [3, 4] A26.a43
def A26.a45 : Ann := .one A26.a44
def A26.a46 : Ann := .two A26.a21 A26.a45
def A26.a47 : Ann := .items [.op 0, .op 1, .op 2]
def A26.a48 : Ann := .items [.op 0, .op 1, .op 2]
def A26.a49 : Ann := .leaf
def A26.a50 : Ann := .two A26.a48 A26.a49
def A26.a51 : Ann := .two A26.a47 A26.a50
def A26.a52 : Ann := .two A26.a46 A26.a51
def A26.a53 : Ann := .two A26.a20 A26.a52
def A26.a54 : Ann := .two A26.a19 A26.a53
def A26.a55 : Ann := .two A26.a12 A26.a54
def A26.a56 : Ann := .two A26.a11 A26.a55
def A26.an : Ann := .two A26.a0 A26.a56
def F26_1 (N : Nat) (call : CT) (self : K3) : K3 :=
  (codeK Tryz.prog N call (c1 (c1 (c2 (c1 (c2 (c2 (c2 (c2 (c2 (bodyOf Tryz.f26)))))))))) A26.a43 (fun T L h => self (keepT [0, 3, 4, 6, 46, 47, 48] T) (keepL [3, 4] L) h) (fun i T L h => match Nat.beq i 0 with | true => (codeK Tryz.prog N call (c2 (c2 (c2 (c2 (c2 (c2 (bodyOf Tryz.f26))))))) A26.a51 (resK Tryz.prog Tryz.f26.results.toList) (fun _ _ _ _ => none) (resK Tryz.prog Tryz.f26.results.toList)) T L h | false => (fun _ _ _ _ => none) i T L h) (resK Tryz.prog Tryz.f26.results.toList))
def E26_1 (N : Nat) (call : CT) : K3 := iter (F26_1 N call) N
def S26_1 (call : CT) (k1 : OA → OA → Nat → Option Nat → OA → Nat → Option Nat → Int → Int → AV → AV → AV → AV → AV → AV → AV → AV → AV → AV → H → R) (x_0 a_6 : OA) (n_6 : Nat) (c_6 : Option Nat) (a_46 : OA) (n_46 : Nat) (c_46 : Option Nat) (x_47 x_48 : Int) (l3_0 l3_1 : AV) (l3_2 l3_3 : AV) (l3_4 l4_0 : AV) (l4_1 l4_2 : AV) (l4_3 l4_4 : AV) (h : H) : R :=
  ifB (ltI x_48 x_47) (idxAddr 5 a_46 n_46 x_48 (fun b1 o2 => ldK h b1 o2 5 (fun l3 => row5 (fun x4 x5 x6 x7 x8 => bindR (call 26 [(.ptr x_0), (.agg [x4, x5, x6, x7, x8])] h) (fun v9 h10 => onTuple v9 0 (fun v11 => onAgR v11 (fun l17 => row5 (fun x12 x13 x14 x15 x16 => onTuple v9 1 (fun v18 => onBool v18 (fun e19 => ifB (!e19) (some (.tuple [(.agg [(.str []), (.str []), (.int .i64 (Int.ofNat 0)), (.int .i64 (Int.ofNat 0)), (.slice none 0 (some 0))]), (.bool false)], h10)) (appL h10 5 a_6 n_6 c_6 1 [x12, x13, x14, x15, x16] (fun a20 n21 c22 h23 => k1 x_0 a20 n21 c22 a_46 n_46 c_46 x_47 (wrapF .i64 (Int.add x_48 (Int.ofNat 1))) l3_0 l3_1 l3_2 l3_3 l3_4 l4_0 l4_1 l4_2 l4_3 l4_4 h23))))) l17)))) l3))) (some (.tuple [(.agg [l3_0, l3_1, l3_2, l3_3, (.slice a_6 n_6 c_6)]), (.bool true)], h))
def S26_0 (call : CT) (k1 : OA → OA → Nat → Option Nat → OA → Nat → Option Nat → Int → Int → AV → AV → AV → AV → AV → AV → AV → AV → AV → AV → H → R) (y0 y1 : AV) (h : H) : R :=
  onPtr y0 (fun p1 => onAgR y1 (fun l7 => row5 (fun x2 x3 x4 x5 x6 => onStr x2 (fun s8 => ifB (eqS s8 [99, 97, 108, 108]) (bindR (call 49 [(.ptr p1), (.agg [x2, x3, x4, x5, x6])] h) (fun v9 h10 => onAgR v9 (fun l16 => row5 (fun x11 x12 x13 x14 x15 => bindR (call 50 [(.agg [x11, x12, x13, x14, x15])] h10) (fun v17 h18 => onInt .i64 v17 (fun i19 => onSome p1 (fun b20 o21 => ldK h18 b20 (o21 + 1) 1 (one (fun v22 => ldK h10 b20 (o21 + 1) 1 (one (fun v23 => guardB (sameAV v22 v23) (onInt .i64 v22 (fun i24 => onSome p1 (fun b25 o26 => stK h18 b25 (o26 + 1) [(.int .i64 (wrapF .i64 (Int.sub i24 i19)))] (fun h27 => onSome p1 (fun b28 o29 => ldK h27 b28 (o29 + 1) 1 (one (fun v30 => ldK h27 b28 (o29 + 1) 1 (one (fun v31 => guardB (sameAV v30 v31) (onInt .i64 v30 (fun i32 => some (.tuple [(.agg [x11, x12, x13, x14, x15]), (.bool (leI (Int.ofNat 0) i32))], h27)))))))))))))))))))) l16))) (onSome p1 (fun b33 o34 => ldK h b33 (o34 + 1) 1 (one (fun v35 => onInt .i64 v35 (fun i36 => onSome p1 (fun b37 o38 => stK h b37 (o38 + 1) [(.int .i64 (wrapF .i64 (Int.sub i36 (Int.ofNat 1))))] (fun h39 => onSome p1 (fun b40 o41 => ldK h39 b40 (o41 + 1) 1 (one (fun v42 => onInt .i64 v42 (fun i43 => ifB (ltI i43 (Int.ofNat 0)) (some (.tuple [(.agg [(.str []), (.str []), (.int .i64 (Int.ofNat 0)), (.int .i64 (Int.ofNat 0)), (.slice none 0 (some 0))]), (.bool false)], h39)) (onSlice x6 (fun a44 n45 c46 => k1 p1 none 0 (some 0) a44 n45 c46 (Int.ofNat n45) (Int.ofNat 0) x2 x3 x4 x5 x6 (.str []) (.str []) (.int .i64 (Int.ofNat 0)) (.int .i64 (Int.ofNat 0)) (.slice none 0 (some 0)) h39))))))))))))))) l7))
def B26_1 (N : Nat) (call : CT) (ih : OA → OA → Nat → Option Nat → OA → Nat → Option Nat → Int → Int → AV → AV → AV → AV → AV → AV → AV → AV → AV → AV → H → R) : OA → OA → Nat → Option Nat → OA → Nat → Option Nat → Int → Int → AV → AV → AV → AV → AV → AV → AV → AV → AV → AV → H → R := S26_1 call ih
def I26_1 (N : Nat) (call : CT) (n : Nat) : OA → OA → Nat → Option Nat → OA → Nat → Option Nat → Int → Int → AV → AV → AV → AV → AV → AV → AV → AV → AV → AV → H → R := Nat.rec (motive := fun _ => OA → OA → Nat → Option Nat → OA → Nat → Option Nat → Int → Int → AV → AV → AV → AV → AV → AV → AV → AV → AV → AV → H → R) (fun _ _ _ _ _ _ _ _ _ _ _ _ _ _ _ _ _ _ _ _ => none) (fun _ ih => B26_1 N call ih) n
def C26_1 (N : Nat) (call : CT) : OA → OA → Nat → Option Nat → OA → Nat → Option Nat → Int → Int → AV → AV → AV → AV → AV → AV → AV → AV → AV → AV → H → R := I26_1 N call N
def S26 (N : Nat) (call : CT) (y0 y1 : AV) (h : H) : R := S26_0 call (C26_1 N call) y0 y1 h
def T26_1 (x_0 a_6 : OA) (n_6 : Nat) (c_6 : Option Nat) (a_46 : OA) (n_46 : Nat) (c_46 : Option Nat) (x_47 x_48 : Int) (l3_0 l3_1 : AV) (l3_2 l3_3 : AV) (l3_4 l4_0 : AV) (l4_1 l4_2 : AV) (l4_3 l4_4 : AV) : LF := [(some (.v (.ptr x_0))), none, none, (some (.lptr 3 0)), (some (.lptr 4 0)), none, (some (.v (.slice a_6 n_6 c_6))), oo, oo, oo, oo, oo, oo, oo, oo, oo, oo, oo, oo, oo, oo, oo, oo, oo, oo, oo, oo, oo, oo, oo, oo, oo, oo, oo, oo, oo, oo, oo, oo, oo, oo, oo, oo, oo, oo, oo, (some (.v (.slice a_46 n_46 c_46))), (some (.v (.int .i64 x_47))), (some (.v (.int .i64 x_48))), oo, oo, oo, oo, oo, oo, oo, oo, oo, oo, oo, oo, oo, oo, oo, oo, oo, oo, oo, oo]
def L26_1 (x_0 a_6 : OA) (n_6 : Nat) (c_6 : Option Nat) (a_46 : OA) (n_46 : Nat) (c_46 : Option Nat) (x_47 x_48 : Int) (l3_0 l3_1 : AV) (l3_2 l3_3 : AV) (l3_4 l4_0 : AV) (l4_1 l4_2 : AV) (l4_3 l4_4 : AV) : LL := [oo, oo, oo, (some (.cells [l3_0, l3_1, l3_2, l3_3, l3_4])), (some (.cells [l4_0, l4_1, l4_2, l4_3, l4_4])), oo, oo, oo, oo, oo, oo, oo, oo, oo, oo, oo, oo, oo, oo, oo, oo, oo, oo, oo, oo, oo, oo, oo, oo, oo, oo, oo, oo, oo, oo, oo, oo, oo, oo, oo, oo, oo, oo, oo, oo, oo, oo, oo, oo, oo, oo, oo, oo, oo, oo, oo, oo, oo, oo, oo, oo, oo, oo, oo, oo, oo, oo, oo, oo]
theorem R26_1 (N : Nat) (call : CT) (self : K3) (x_0 a_6 : OA) (n_6 : Nat) (c_6 : Option Nat) (a_46 : OA) (n_46 : Nat) (c_46 : Option Nat) (x_47 x_48 : Int) (l3_0 l3_1 : AV) (l3_2 l3_3 : AV) (l3_4 l4_0 : AV) (l4_1 l4_2 : AV) (l4_3 l4_4 : AV) (h : H) : F26_1 N call self (T26_1 x_0 a_6 n_6 c_6 a_46 n_46 c_46 x_47 x_48 l3_0 l3_1 l3_2 l3_3 l3_4 l4_0 l4_1 l4_2 l4_3 l4_4) (L26_1 x_0 a_6 n_6 c_6 a_46 n_46 c_46 x_47 x_48 l3_0 l3_1 l3_2 l3_3 l3_4 l4_0 l4_1 l4_2 l4_3 l4_4) h = S26_1 call (fun (x_0 a_6 : OA) (n_6 : Nat) (c_6 : Option Nat) (a_46 : OA) (n_46 : Nat) (c_46 : Option Nat) (x_47 x_48 : Int) (l3_0 l3_1 : AV) (l3_2 l3_3 : AV) (l3_4 l4_0 : AV) (l4_1 l4_2 : AV) (l4_3 l4_4 : AV) h => self (T26_1 x_0 a_6 n_6 c_6 a_46 n_46 c_46 x_47 x_48 l3_0 l3_1 l3_2 l3_3 l3_4 l4_0 l4_1 l4_2 l4_3 l4_4) (L26_1 x_0 a_6 n_6 c_6 a_46 n_46 c_46 x_47 x_48 l3_0 l3_1 l3_2 l3_3 l3_4 l4_0 l4_1 l4_2 l4_3 l4_4) h) x_0 a_6 n_6 c_6 a_46 n_46 c_46 x_47 x_48 l3_0 l3_1 l3_2 l3_3 l3_4 l4_0 l4_1 l4_2 l4_3 l4_4 h := by kernel_rfl
theorem Q26_1 (N : Nat) (call : CT) (n : Nat) : ∀ (x_0 a_6 : OA) (n_6 : Nat) (c_6 : Option Nat) (a_46 : OA) (n_46 : Nat) (c_46 : Option Nat) (x_47 x_48 : Int) (l3_0 l3_1 : AV) (l3_2 l3_3 : AV) (l3_4 l4_0 : AV) (l4_1 l4_2 : AV) (l4_3 l4_4 : AV) (h : H), (iter (F26_1 N call) n) (T26_1 x_0 a_6 n_6 c_6 a_46 n_46 c_46 x_47 x_48 l3_0 l3_1 l3_2 l3_3 l3_4 l4_0 l4_1 l4_2 l4_3 l4_4) (L26_1 x_0 a_6 n_6 c_6 a_46 n_46 c_46 x_47 x_48 l3_0 l3_1 l3_2 l3_3 l3_4 l4_0 l4_1 l4_2 l4_3 l4_4) h = I26_1 N call n x_0 a_6 n_6 c_6 a_46 n_46 c_46 x_47 x_48 l3_0 l3_1 l3_2 l3_3 l3_4 l4_0 l4_1 l4_2 l4_3 l4_4 h := by
  induction n with
  | zero => intros; exact (iter_zero _ _ _ _).trans (by kernel_rfl)
  | succ n ih =>
    intro x_0 a_6 n_6 c_6 a_46 n_46 c_46 x_47 x_48 l3_0 l3_1 l3_2 l3_3 l3_4 l4_0 l4_1 l4_2 l4_3 l4_4 h
    have e0 : (fun (x_0 a_6 : OA) (n_6 : Nat) (c_6 : Option Nat) (a_46 : OA) (n_46 : Nat) (c_46 : Option Nat) (x_47 x_48 : Int) (l3_0 l3_1 : AV) (l3_2 l3_3 : AV) (l3_4 l4_0 : AV) (l4_1 l4_2 : AV) (l4_3 l4_4 : AV) h => (iter (F26_1 N call) n) (T26_1 x_0 a_6 n_6 c_6 a_46 n_46 c_46 x_47 x_48 l3_0 l3_1 l3_2 l3_3 l3_4 l4_0 l4_1 l4_2 l4_3 l4_4) (L26_1 x_0 a_6 n_6 c_6 a_46 n_46 c_46 x_47 x_48 l3_0 l3_1 l3_2 l3_3 l3_4 l4_0 l4_1 l4_2 l4_3 l4_4) h) = (I26_1 N call n) := by funext x_0 a_6 n_6 c_6 a_46 n_46 c_46 x_47 x_48 l3_0 l3_1 l3_2 l3_3 l3_4 l4_0 l4_1 l4_2 l4_3 l4_4 h; exact ih x_0 a_6 n_6 c_6 a_46 n_46 c_46 x_47 x_48 l3_0 l3_1 l3_2 l3_3 l3_4 l4_0 l4_1 l4_2 l4_3 l4_4 h
    have r := R26_1 N call (iter (F26_1 N call) n) x_0 a_6 n_6 c_6 a_46 n_46 c_46 x_47 x_48 l3_0 l3_1 l3_2 l3_3 l3_4 l4_0 l4_1 l4_2 l4_3 l4_4 h
    rw [e0] at r
    have g := iter_succ (F26_1 N call) n (T26_1 x_0 a_6 n_6 c_6 a_46 n_46 c_46 x_47 x_48 l3_0 l3_1 l3_2 l3_3 l3_4 l4_0 l4_1 l4_2 l4_3 l4_4) (L26_1 x_0 a_6 n_6 c_6 a_46 n_46 c_46 x_47 x_48 l3_0 l3_1 l3_2 l3_3 l3_4 l4_0 l4_1 l4_2 l4_3 l4_4) h
    have z : S26_1 call (I26_1 N call n) x_0 a_6 n_6 c_6 a_46 n_46 c_46 x_47 x_48 l3_0 l3_1 l3_2 l3_3 l3_4 l4_0 l4_1 l4_2 l4_3 l4_4 h = I26_1 N call (n + 1) x_0 a_6 n_6 c_6 a_46 n_46 c_46 x_47 x_48 l3_0 l3_1 l3_2 l3_3 l3_4 l4_0 l4_1 l4_2 l4_3 l4_4 h := by kernel_rfl
    exact g.trans (r.trans z)
theorem Z26_1 (N : Nat) (call : CT) (x_0 a_6 : OA) (n_6 : Nat) (c_6 : Option Nat) (a_46 : OA) (n_46 : Nat) (c_46 : Option Nat) (x_47 x_48 : Int) (l3_0 l3_1 : AV) (l3_2 l3_3 : AV) (l3_4 l4_0 : AV) (l4_1 l4_2 : AV) (l4_3 l4_4 : AV) (h : H) : (E26_1 N call) (T26_1 x_0 a_6 n_6 c_6 a_46 n_46 c_46 x_47 x_48 l3_0 l3_1 l3_2 l3_3 l3_4 l4_0 l4_1 l4_2 l4_3 l4_4) (L26_1 x_0 a_6 n_6 c_6 a_46 n_46 c_46 x_47 x_48 l3_0 l3_1 l3_2 l3_3 l3_4 l4_0 l4_1 l4_2 l4_3 l4_4) h = C26_1 N call x_0 a_6 n_6 c_6 a_46 n_46 c_46 x_47 x_48 l3_0 l3_1 l3_2 l3_3 l3_4 l4_0 l4_1 l4_2 l4_3 l4_4 h := by
  have g : (E26_1 N call) (T26_1 x_0 a_6 n_6 c_6 a_46 n_46 c_46 x_47 x_48 l3_0 l3_1 l3_2 l3_3 l3_4 l4_0 l4_1 l4_2 l4_3 l4_4) (L26_1 x_0 a_6 n_6 c_6 a_46 n_46 c_46 x_47 x_48 l3_0 l3_1 l3_2 l3_3 l3_4 l4_0 l4_1 l4_2 l4_3 l4_4) h = iter (F26_1 N call) N (T26_1 x_0 a_6 n_6 c_6 a_46 n_46 c_46 x_47 x_48 l3_0 l3_1 l3_2 l3_3 l3_4 l4_0 l4_1 l4_2 l4_3 l4_4) (L26_1 x_0 a_6 n_6 c_6 a_46 n_46 c_46 x_47 x_48 l3_0 l3_1 l3_2 l3_3 l3_4 l4_0 l4_1 l4_2 l4_3 l4_4) h := by kernel_rfl
  have z : I26_1 N call N x_0 a_6 n_6 c_6 a_46 n_46 c_46 x_47 x_48 l3_0 l3_1 l3_2 l3_3 l3_4 l4_0 l4_1 l4_2 l4_3 l4_4 h = C26_1 N call x_0 a_6 n_6 c_6 a_46 n_46 c_46 x_47 x_48 l3_0 l3_1 l3_2 l3_3 l3_4 l4_0 l4_1 l4_2 l4_3 l4_4 h := by kernel_rfl
  exact g.trans ((Q26_1 N call N x_0 a_6 n_6 c_6 a_46 n_46 c_46 x_47 x_48 l3_0 l3_1 l3_2 l3_3 l3_4 l4_0 l4_1 l4_2 l4_3 l4_4 h).trans z)
theorem R26_0 (N : Nat) (call : CT) (y0 y1 : AV) (h : H) : body Tryz.prog N call Tryz.f26 A26.an [y0, y1] h = S26_0 call (fun (x_0 a_6 : OA) (n_6 : Nat) (c_6 : Option Nat) (a_46 : OA) (n_46 : Nat) (c_46 : Option Nat) (x_47 x_48 : Int) (l3_0 l3_1 : AV) (l3_2 l3_3 : AV) (l3_4 l4_0 : AV) (l4_1 l4_2 : AV) (l4_3 l4_4 : AV) h => (E26_1 N call) (T26_1 x_0 a_6 n_6 c_6 a_46 n_46 c_46 x_47 x_48 l3_0 l3_1 l3_2 l3_3 l3_4 l4_0 l4_1 l4_2 l4_3 l4_4) (L26_1 x_0 a_6 n_6 c_6 a_46 n_46 c_46 x_47 x_48 l3_0 l3_1 l3_2 l3_3 l3_4 l4_0 l4_1 l4_2 l4_3 l4_4) h) y0 y1 h := by kernel_rfl
theorem Z26 (N : Nat) (call : CT) (y0 y1 : AV) (h : H) : body Tryz.prog N call Tryz.f26 A26.an [y0, y1] h = S26 N call y0 y1 h := by
  have e1 : (fun (x_0 a_6 : OA) (n_6 : Nat) (c_6 : Option Nat) (a_46 : OA) (n_46 : Nat) (c_46 : Option Nat) (x_47 x_48 : Int) (l3_0 l3_1 : AV) (l3_2 l3_3 : AV) (l3_4 l4_0 : AV) (l4_1 l4_2 : AV) (l4_3 l4_4 : AV) h => (E26_1 N call) (T26_1 x_0 a_6 n_6 c_6 a_46 n_46 c_46 x_47 x_48 l3_0 l3_1 l3_2 l3_3 l3_4 l4_0 l4_1 l4_2 l4_3 l4_4) (L26_1 x_0 a_6 n_6 c_6 a_46 n_46 c_46 x_47 x_48 l3_0 l3_1 l3_2 l3_3 l3_4 l4_0 l4_1 l4_2 l4_3 l4_4) h) = (C26_1 N call) := by
    funext x_0 a_6 n_6 c_6 a_46 n_46 c_46 x_47 x_48 l3_0 l3_1 l3_2 l3_3 l3_4 l4_0 l4_1 l4_2 l4_3 l4_4 h
    exact Z26_1 N call x_0 a_6 n_6 c_6 a_46 n_46 c_46 x_47 x_48 l3_0 l3_1 l3_2 l3_3 l3_4 l4_0 l4_1 l4_2 l4_3 l4_4 h
  have r := R26_0 N call y0 y1 h
  rw [e1] at r
  have z : S26_0 call (C26_1 N call) y0 y1 h = S26 N call y0 y1 h := by kernel_rfl
  exact r.trans z
theorem V26 (N : Nat) (call : CT) (vs : List AV) (h : H) : body Tryz.prog N call Tryz.f26 A26.an vs h = row2 (fun y0 y1 => S26 N call y0 y1 h) vs := wrap2 (by kernel_rfl) (fun y0 y1 => Z26 N call y0 y1 h) vs
/- sibyl/sibylref2.Tokens -/
def A27.a0 : Ann := .items [.op 0, .op 1, .op 2]
def A27.a1 : Ann := .items [.op 0, .op 1, .op 2]
def A27.a2 : Ann := .items [.op 0, .op 1, .op 2]
def A27.a3 : Ann := .leaf
def A27.a4 : Ann := .two A27.a2 A27.a3
def A27.a5 : Ann := .leaf
def A27.a6 : Ann := .two A27.a4 A27.a5
def A27.a7 : Ann := .two A27.a1 A27.a6
def A27.a8 : Ann := .items [.op 0, .op 1, .op 2, .op 3]
def A27.a9 : Ann := .items [.op 0, .op 1, .op 2, .op 3, .op 4, .op 5, .op 6, .op 7, .op 8, .op 9, .op 10, .op 11, .op 12]
def A27.a10 : Ann := .items [.op 0]
def A27.a11 : Ann := .items [.op 0, .op 1]
def A27.a12 : Ann := .drawn [.op 0, .op 1, .op 2, .op 3, .op 4, .op 5, .op 6, .op 7, .op 8, .op 9]
def A27.a13 : Ann := .leaf
def A27.a14 : Ann := .leaf
def A27.a15 : Ann := .two A27.a13 A27.a14
def A27.a16 : Ann := .two A27.a12 A27.a15
def A27.a17 : Ann := .items [.op 0, .op 1, .op 2]
def A27.a18 : Ann := .items [.op 0, .op 1, .op 2, .op 3, .op 4, .opL 5, .op 6, .op 7]
def A27.a19 : Ann := .items [.op 0, .op 1]
def A27.a20 : Ann := .items [.op 0, .op 1, .op 2, .op 3]
def A27.a21 : Ann := .leaf
def A27.a22 : Ann := .two A27.a20 A27.a21
def A27.a23 : Ann := .leaf
def A27.a24 : Ann := .two A27.a22 A27.a23
def A27.a25 : Ann := .two A27.a19 A27.a24
def A27.a26 : Ann := .items [.op 0, .op 1, .opL 2, .op 3, .op 4]
def A27.a27 : Ann := .two A27.a25 A27.a26
def A27.a28 : Ann := .two A27.a18 A27.a27
def A27.a29 : Ann := .two A27.a17 A27.a28
def A27.a30 : Ann := .one A27.a29
def A27.a31 : Ann := .items [.op 0, .op 1]
def A27.a32 : Ann := .two A27.a30 A27.a31
def A27.a33 : Ann := .two A27.a16 A27.a32
def A27.a34 : Ann := .meet [0, 5, 6] [] A27.a33
def A27.a35 : Ann := .one A27.a34
def A27.a36 : Ann := .two A27.a11 A27.a35
def A27.a37 : Ann := .items [.op 0, .op 1, .op 2, .op 3, .op 4]
def A27.a38 : Ann := .drawn [.op 0, .op 1, .op 2, .op 3, .op 4, .op 5, .op 6]
def A27.a39 : Ann := .leaf
def A27.a40 : Ann := .two A27.a38 A27.a39
def A27.a41 : Ann := .leaf
def A27.a42 : Ann := .two A27.a40 A27.a41
def A27.a43 : Ann := .two A27.a37 A27.a42
def A27.a44 : Ann := .items [.op 0, .op 1, .op 2, .op 3, .opL 4, .op 5, .op 6, .op 7, .op 8, .op 9, .op 10]
def A27.a45 : Ann := .leaf
def A27.a46 : Ann := .two A27.a44 A27.a45
def A27.a47 : Ann := .two A27.a43 A27.a46
def A27.a48 : Ann := .two A27.a36 A27.a47
def A27.a49 : Ann := .two A27.a10 A27.a48
def A27.a50 : Ann := .two A27.a9 A27.a49
def A27.a51 : Ann := .two A27.a8 A27.a50
def A27.a52 : Ann := .two A27.a7 A27.a51
def A27.an : Ann := .two A27.a0 A27.a52
def F27_1 (N : Nat) (call : CT) (self : K3) : K3 :=
  (codeK Tryz.prog N call (c1 (c1 (c2 (c1 (c2 (c2 (c2 (c2 (c2 (bodyOf Tryz.f27)))))))))) A27.a33 (fun T L h => self (keepT [0, 5, 6] T) (keepL [] L) h) (fun i T L h => match Nat.beq i 0 with | true => (codeK Tryz.prog N call (c2 (c2 (c2 (c2 (c2 (c2 (bodyOf Tryz.f27))))))) A27.a47 (resK Tryz.prog Tryz.f27.results.toList) (fun _ _ _ _ => none) (resK Tryz.prog Tryz.f27.results.toList)) T L h | false => (fun _ _ _ _ => none) i T L h) (resK Tryz.prog Tryz.f27.results.toList))
def E27_1 (N : Nat) (call : CT) : K3 := iter (F27_1 N call) N
def S27_1 (call : CT) (k1 : List Nat → OA → OA → Nat → Option Nat → H → R) (x_0 : List Nat) (x_5 a_6 : OA) (n_6 : Nat) (c_6 : Option Nat) (h : H) : R :=
  onSome x_5 (fun b1 o2 => ldK h b1 (o2 + 3) 1 (one (fun v3 => onInt .i64 v3 (fun i4 => onSome x_5 (fun b5 o6 => ldK h b5 (o6 + 1) 1 (one (fun v7 => onSlice v7 (fun a8 n9 c10 => ifB (ltI i4 (Int.ofNat n9)) (bindR (call 53 [(.ptr x_5), (.int .i64 (Int.ofNat 0))] h) (fun v11 h12 => onInt .i64 v11 (fun i13 => bindR (call 54 [(.ptr x_5)] h12) (fun v14 h15 => onTuple v14 0 (fun v16 => onAgR v16 (fun l21 => row4 (fun x17 x18 x19 x20 => onTuple v14 1 (fun v22 => onBool v22 (fun e23 => ifB (!e23) (some (.tuple [(.slice none 0 (some 0)), (.int .i64 i13), (.int .i64 (Int.ofNat 2))], h15)) (appL h15 4 a_6 n_6 c_6 1 [x17, x18, x19, x20] (fun a24 n25 c26 h27 => bindR (call 52 [(.ptr x_5)] h27) (fun v28 h29 => k1 x_0 x_5 a24 n25 c26 h29)))))) l21)))))) (onSome x_5 (fun b30 o31 => ldK h b30 (o31 + 2) 1 (one (fun v32 => onInt .i64 v32 (fun i33 => ifB (leI (Int.ofNat 0) i33) (onSome x_5 (fun b34 o35 => ldK h b34 (o35 + 2) 1 (one (fun v36 => onInt .i64 v36 (fun i37 => some (.tuple [(.slice none 0 (some 0)), (.int .i64 i37), (.int .i64 (Int.ofNat 2))], h)))))) (appL h 4 a_6 n_6 c_6 1 [(.int .i64 (Int.ofNat 4)), (.str []), (.int .i64 (Int.ofNat 0)), (.int .i64 (Int.ofNat (x_0).length))] (fun a38 n39 c40 h41 => some (.tuple [(.slice a38 n39 c40), (.int .i64 (Int.ofNat (x_0).length)), (.int .i64 (Int.ofNat 0))], h41))))))))))))))))
def S27_0 (call : CT) (k1 : List Nat → OA → OA → Nat → Option Nat → H → R) (y0 : AV) (h : H) : R :=
  onStr y0 (fun s1 => ifB (ltI (Int.ofNat 2000) (Int.ofNat (s1).length)) (some (.tuple [(.slice none 0 (some 0)), (.int .i64 (Int.ofNat 0)), (.int .i64 (Int.ofNat 3))], h)) (newK h [(.str s1), (.slice none 0 (some 0)), (.int .i64 (Int.ofNat 0)), (.int .i64 (Int.ofNat 0))] (fun b2 h3 => bindR (call 51 [(.str s1)] h3) (fun v4 h5 => onTuple v4 0 (fun v6 => onSlice v6 (fun a7 n8 c9 => onTuple v4 1 (fun v10 => onInt .i64 v10 (fun i11 => stK h5 b2 1 [(.slice a7 n8 c9)] (fun h12 => stK h12 b2 2 [(.int .i64 i11)] (fun h13 => bindR (call 52 [(.ptr (some (b2, 0)))] h13) (fun v14 h15 => k1 s1 (some (b2, 0)) none 0 (some 0) h15)))))))))))
def B27_1 (N : Nat) (call : CT) (ih : List Nat → OA → OA → Nat → Option Nat → H → R) : List Nat → OA → OA → Nat → Option Nat → H → R := S27_1 call ih
def I27_1 (N : Nat) (call : CT) (n : Nat) : List Nat → OA → OA → Nat → Option Nat → H → R := Nat.rec (motive := fun _ => List Nat → OA → OA → Nat → Option Nat → H → R) (fun _ _ _ _ _ _ => none) (fun _ ih => B27_1 N call ih) n
def C27_1 (N : Nat) (call : CT) : List Nat → OA → OA → Nat → Option Nat → H → R := I27_1 N call N
def S27 (N : Nat) (call : CT) (y0 : AV) (h : H) : R := S27_0 call (C27_1 N call) y0 h
def T27_1 (x_0 : List Nat) (x_5 a_6 : OA) (n_6 : Nat) (c_6 : Option Nat) : LF := [(some (.v (.str x_0))), oo, oo, oo, oo, (some (.v (.ptr x_5))), (some (.v (.slice a_6 n_6 c_6))), oo, oo, oo, oo, oo, oo, oo, oo, oo, oo, oo, oo, oo, oo, oo, oo, oo, oo, oo, oo, oo, oo, oo, oo, oo, oo, oo, oo, oo, oo, oo, oo, oo, oo, oo, oo, oo, oo, oo, oo, oo, oo, oo, oo, oo, oo, oo, oo, oo, oo, oo, oo, oo, oo, oo, oo, oo, oo, oo, oo, oo, oo, oo, oo, oo]
def L27_1 (x_0 : List Nat) (x_5 a_6 : OA) (n_6 : Nat) (c_6 : Option Nat) : LL := [oo, oo, oo, oo, oo, oo, oo, oo, oo, oo, oo, oo, oo, oo, oo, oo, oo, oo, oo, oo, oo, oo, oo, oo, oo, oo, oo, oo, oo, oo, oo, oo, oo, oo, oo, oo, oo, oo, oo, oo, oo, oo, oo, oo, oo, oo, oo, oo, oo, oo, oo, oo, oo, oo, oo, oo, oo, oo, oo, oo, oo, oo, oo, oo, oo, oo, oo, oo, oo, oo, oo, oo]
theorem R27_1 (N : Nat) (call : CT) (self : K3) (x_0 : List Nat) (x_5 a_6 : OA) (n_6 : Nat) (c_6 : Option Nat) (h : H) : F27_1 N call self (T27_1 x_0 x_5 a_6 n_6 c_6) (L27_1 x_0 x_5 a_6 n_6 c_6) h = S27_1 call (fun (x_0 : List Nat) (x_5 a_6 : OA) (n_6 : Nat) (c_6 : Option Nat) h => self (T27_1 x_0 x_5 a_6 n_6 c_6) (L27_1 x_0 x_5 a_6 n_6 c_6) h) x_0 x_5 a_6 n_6 c_6 h := by kernel_rfl
theorem Q27_1 (N : Nat) (call : CT) (n : Nat) : ∀ (x_0 : List Nat) (x_5 a_6 : OA) (n_6 : Nat) (c_6 : Option Nat) (h : H), (iter (F27_1 N call) n) (T27_1 x_0 x_5 a_6 n_6 c_6) (L27_1 x_0 x_5 a_6 n_6 c_6) h = I27_1 N call n x_0 x_5 a_6 n_6 c_6 h := by
  induction n with
  | zero => intros; exact (iter_zero _ _ _ _).trans (by kernel_rfl)
  | succ n ih =>
    intro x_0 x_5 a_6 n_6 c_6 h
    have e0 : (fun (x_0 : List Nat) (x_5 a_6 : OA) (n_6 : Nat) (c_6 : Option Nat) h => (iter (F27_1 N call) n) (T27_1 x_0 x_5 a_6 n_6 c_6) (L27_1 x_0 x_5 a_6 n_6 c_6) h) = (I27_1 N call n) := by funext x_0 x_5 a_6 n_6 c_6 h; exact ih x_0 x_5 a_6 n_6 c_6 h
    have r := R27_1 N call (iter (F27_1 N call) n) x_0 x_5 a_6 n_6 c_6 h
    rw [e0] at r
    have g := iter_succ (F27_1 N call) n (T27_1 x_0 x_5 a_6 n_6 c_6) (L27_1 x_0 x_5 a_6 n_6 c_6) h
    have z : S27_1 call (I27_1 N call n) x_0 x_5 a_6 n_6 c_6 h = I27_1 N call (n + 1) x_0 x_5 a_6 n_6 c_6 h := by kernel_rfl
    exact g.trans (r.trans z)
theorem Z27_1 (N : Nat) (call : CT) (x_0 : List Nat) (x_5 a_6 : OA) (n_6 : Nat) (c_6 : Option Nat) (h : H) : (E27_1 N call) (T27_1 x_0 x_5 a_6 n_6 c_6) (L27_1 x_0 x_5 a_6 n_6 c_6) h = C27_1 N call x_0 x_5 a_6 n_6 c_6 h := by
  have g : (E27_1 N call) (T27_1 x_0 x_5 a_6 n_6 c_6) (L27_1 x_0 x_5 a_6 n_6 c_6) h = iter (F27_1 N call) N (T27_1 x_0 x_5 a_6 n_6 c_6) (L27_1 x_0 x_5 a_6 n_6 c_6) h := by kernel_rfl
  have z : I27_1 N call N x_0 x_5 a_6 n_6 c_6 h = C27_1 N call x_0 x_5 a_6 n_6 c_6 h := by kernel_rfl
  exact g.trans ((Q27_1 N call N x_0 x_5 a_6 n_6 c_6 h).trans z)
theorem R27_0 (N : Nat) (call : CT) (y0 : AV) (h : H) : body Tryz.prog N call Tryz.f27 A27.an [y0] h = S27_0 call (fun (x_0 : List Nat) (x_5 a_6 : OA) (n_6 : Nat) (c_6 : Option Nat) h => (E27_1 N call) (T27_1 x_0 x_5 a_6 n_6 c_6) (L27_1 x_0 x_5 a_6 n_6 c_6) h) y0 h := by kernel_rfl
theorem Z27 (N : Nat) (call : CT) (y0 : AV) (h : H) : body Tryz.prog N call Tryz.f27 A27.an [y0] h = S27 N call y0 h := by
  have e1 : (fun (x_0 : List Nat) (x_5 a_6 : OA) (n_6 : Nat) (c_6 : Option Nat) h => (E27_1 N call) (T27_1 x_0 x_5 a_6 n_6 c_6) (L27_1 x_0 x_5 a_6 n_6 c_6) h) = (C27_1 N call) := by
    funext x_0 x_5 a_6 n_6 c_6 h
    exact Z27_1 N call x_0 x_5 a_6 n_6 c_6 h
  have r := R27_0 N call y0 h
  rw [e1] at r
  have z : S27_0 call (C27_1 N call) y0 h = S27 N call y0 h := by kernel_rfl
  exact r.trans z
theorem V27 (N : Nat) (call : CT) (vs : List AV) (h : H) : body Tryz.prog N call Tryz.f27 A27.an vs h = row1 (fun y0 => S27 N call y0 h) vs := wrap1 (by kernel_rfl) (fun y0 => Z27 N call y0 h) vs
/- (*sibyl/sibylref4.parser).is -/
def A28.a0 : Ann := .items [.op 0]
def A28.a1 : Ann := .items [.op 0, .op 1, .opL 2, .op 3]
def A28.a2 : Ann := .items [.op 0, .op 1, .op 2, .op 3, .split 11, .op 4, .op 5, .op 6, .op 7, .op 8, .op 9]
def A28.a3 : Ann := .leaf
def A28.a4 : Ann := .two A28.a2 A28.a3
def A28.a5 : Ann := .two A28.a1 A28.a4
def A28.an : Ann := .two A28.a0 A28.a5
def S28_0 (call : CT) (y0 y1 : AV) (h : H) : R :=
  onPtr y0 (fun p1 => onStr y1 (fun s2 => bindR (call 34 [(.ptr p1)] h) (fun v3 h4 => onAgR v3 (fun l9 => row4 (fun x5 x6 x7 x8 => onInt .i64 x5 (fun i10 => ifB (eqI i10 (Int.ofNat 3)) (onStr x6 (fun s11 => some ((.bool (eqS s11 s2)), h4))) (some ((.bool false), h4)))) l9))))
def S28 (N : Nat) (call : CT) (y0 y1 : AV) (h : H) : R := S28_0 call y0 y1 h
theorem R28_0 (N : Nat) (call : CT) (y0 y1 : AV) (h : H) : body Tryz.prog N call Tryz.f28 A28.an [y0, y1] h = S28_0 call y0 y1 h := by kernel_rfl
theorem Z28 (N : Nat) (call : CT) (y0 y1 : AV) (h : H) : body Tryz.prog N call Tryz.f28 A28.an [y0, y1] h = S28 N call y0 y1 h := by
  have r := R28_0 N call y0 y1 h
  have z : S28_0 call y0 y1 h = S28 N call y0 y1 h := by kernel_rfl
  exact r.trans z
theorem V28 (N : Nat) (call : CT) (vs : List AV) (h : H) : body Tryz.prog N call Tryz.f28 A28.an vs h = row2 (fun y0 y1 => S28 N call y0 y1 h) vs := wrap2 (by kernel_rfl) (fun y0 y1 => Z28 N call y0 y1 h) vs
/- (*sibyl/sibylref4.parser).order -/
def A29.a0 : Ann := .items [.op 0]
def A29.a1 : Ann := .items [.op 0]
def A29.a2 : Ann := .items [.op 0, .op 1]
def A29.a3 : Ann := .leaf
def A29.a4 : Ann := .leaf
def A29.a5 : Ann := .two A29.a3 A29.a4
def A29.a6 : Ann := .two A29.a2 A29.a5
def A29.a7 : Ann := .items [.op 0, .op 1, .op 2, .op 3, .op 4, .opL 5, .op 6, .op 7, .op 8]
def A29.a8 : Ann := .items [.op 0, .op 1]
def A29.a9 : Ann := .leaf
def A29.a10 : Ann := .two A29.a8 A29.a9
def A29.a11 : Ann := .leaf
def A29.a12 : Ann := .two A29.a10 A29.a11
def A29.a13 : Ann := .two A29.a7 A29.a12
def A29.a14 : Ann := .one A29.a13
def A29.a15 : Ann := .items [.op 0, .op 1, .op 2]
def A29.a16 : Ann := .two A29.a14 A29.a15
def A29.a17 : Ann := .two A29.a6 A29.a16
def A29.a18 : Ann := .meet [0, 1, 5] [] A29.a17
def A29.a19 : Ann := .one A29.a18
def A29.a20 : Ann := .two A29.a1 A29.a19
def A29.a21 : Ann := .items [.op 0]
def A29.a22 : Ann := .leaf
def A29.a23 : Ann := .two A29.a21 A29.a22
def A29.a24 : Ann := .two A29.a20 A29.a23
def A29.an : Ann := .two A29.a0 A29.a24
def F29_1 (N : Nat) (call : CT) (self : K3) : K3 :=
  (codeK Tryz.prog N call (c1 (c1 (c2 (c1 (c2 (bodyOf Tryz.f29)))))) A29.a17 (fun T L h => self (keepT [0, 1, 5] T) (keepL [] L) h) (fun i T L h => match Nat.beq i 0 with | true => (codeK Tryz.prog N call (c2 (c2 (bodyOf Tryz.f29))) A29.a23 (resK Tryz.prog Tryz.f29.results.toList) (fun _ _ _ _ => none) (resK Tryz.prog Tryz.f29.results.toList)) T L h | false => (fun _ _ _ _ => none) i T L h) (resK Tryz.prog Tryz.f29.results.toList))
def E29_1 (N : Nat) (call : CT) : K3 := iter (F29_1 N call) N
def S29_1 (call : CT) (k1 : OA → List Nat → Int → H → R) (x_0 : OA) (x_1 : List Nat) (x_5 : Int) (h : H) : R :=
  ifB (ltI x_5 (Int.ofNat 3)) (onOpt (bytesOfCells [(.int .u8 (wrapF .u8 (wrapF .i64 (Int.add (Int.ofNat 48) x_5))))]) (fun s1 => onOpt (abin Tryz.prog 9 .add (.str x_1) (.str s1)) (fun v2 => onStr v2 (fun s3 => bindR (call 28 [(.ptr x_0), (.str s3)] h) (fun v4 h5 => onBool v4 (fun e6 => ifB e6 (some ((.int .i64 x_5), h5)) (k1 x_0 x_1 (wrapF .i64 (Int.add x_5 (Int.ofNat 1))) h5))))))) (some ((.int .i64 (Int.negSucc 0)), h))
def S29_0 (call : CT) (k1 : OA → List Nat → Int → H → R) (y0 y1 : AV) (h : H) : R :=
  onPtr y0 (fun p1 => onStr y1 (fun s2 => k1 p1 s2 (Int.ofNat 0) h))
def B29_1 (N : Nat) (call : CT) (ih : OA → List Nat → Int → H → R) : OA → List Nat → Int → H → R := S29_1 call ih
def I29_1 (N : Nat) (call : CT) (n : Nat) : OA → List Nat → Int → H → R := Nat.rec (motive := fun _ => OA → List Nat → Int → H → R) (fun _ _ _ _ => none) (fun _ ih => B29_1 N call ih) n
def C29_1 (N : Nat) (call : CT) : OA → List Nat → Int → H → R := I29_1 N call N
def S29 (N : Nat) (call : CT) (y0 y1 : AV) (h : H) : R := S29_0 call (C29_1 N call) y0 y1 h
def T29_1 (x_0 : OA) (x_1 : List Nat) (x_5 : Int) : LF := [(some (.v (.ptr x_0))), (some (.v (.str x_1))), oo, oo, oo, (some (.v (.int .i64 x_5))), oo, oo, oo, oo, oo, oo, oo, oo, oo, oo, oo, oo, oo, oo]
def L29_1 (x_0 : OA) (x_1 : List Nat) (x_5 : Int) : LL := [oo, oo, oo, oo, oo, oo, oo, oo, oo, oo, oo, oo, oo, oo, oo, oo, oo, oo, oo, oo]
theorem R29_1 (N : Nat) (call : CT) (self : K3) (x_0 : OA) (x_1 : List Nat) (x_5 : Int) (h : H) : F29_1 N call self (T29_1 x_0 x_1 x_5) (L29_1 x_0 x_1 x_5) h = S29_1 call (fun (x_0 : OA) (x_1 : List Nat) (x_5 : Int) h => self (T29_1 x_0 x_1 x_5) (L29_1 x_0 x_1 x_5) h) x_0 x_1 x_5 h := by kernel_rfl
theorem Q29_1 (N : Nat) (call : CT) (n : Nat) : ∀ (x_0 : OA) (x_1 : List Nat) (x_5 : Int) (h : H), (iter (F29_1 N call) n) (T29_1 x_0 x_1 x_5) (L29_1 x_0 x_1 x_5) h = I29_1 N call n x_0 x_1 x_5 h := by
  induction n with
  | zero => intros; exact (iter_zero _ _ _ _).trans (by kernel_rfl)
  | succ n ih =>
    intro x_0 x_1 x_5 h
    have e0 : (fun (x_0 : OA) (x_1 : List Nat) (x_5 : Int) h => (iter (F29_1 N call) n) (T29_1 x_0 x_1 x_5) (L29_1 x_0 x_1 x_5) h) = (I29_1 N call n) := by funext x_0 x_1 x_5 h; exact ih x_0 x_1 x_5 h
    have r := R29_1 N call (iter (F29_1 N call) n) x_0 x_1 x_5 h
    rw [e0] at r
    have g := iter_succ (F29_1 N call) n (T29_1 x_0 x_1 x_5) (L29_1 x_0 x_1 x_5) h
    have z : S29_1 call (I29_1 N call n) x_0 x_1 x_5 h = I29_1 N call (n + 1) x_0 x_1 x_5 h := by kernel_rfl
    exact g.trans (r.trans z)
theorem Z29_1 (N : Nat) (call : CT) (x_0 : OA) (x_1 : List Nat) (x_5 : Int) (h : H) : (E29_1 N call) (T29_1 x_0 x_1 x_5) (L29_1 x_0 x_1 x_5) h = C29_1 N call x_0 x_1 x_5 h := by
  have g : (E29_1 N call) (T29_1 x_0 x_1 x_5) (L29_1 x_0 x_1 x_5) h = iter (F29_1 N call) N (T29_1 x_0 x_1 x_5) (L29_1 x_0 x_1 x_5) h := by kernel_rfl
  have z : I29_1 N call N x_0 x_1 x_5 h = C29_1 N call x_0 x_1 x_5 h := by kernel_rfl
  exact g.trans ((Q29_1 N call N x_0 x_1 x_5 h).trans z)
theorem R29_0 (N : Nat) (call : CT) (y0 y1 : AV) (h : H) : body Tryz.prog N call Tryz.f29 A29.an [y0, y1] h = S29_0 call (fun (x_0 : OA) (x_1 : List Nat) (x_5 : Int) h => (E29_1 N call) (T29_1 x_0 x_1 x_5) (L29_1 x_0 x_1 x_5) h) y0 y1 h := by kernel_rfl
theorem Z29 (N : Nat) (call : CT) (y0 y1 : AV) (h : H) : body Tryz.prog N call Tryz.f29 A29.an [y0, y1] h = S29 N call y0 y1 h := by
  have e1 : (fun (x_0 : OA) (x_1 : List Nat) (x_5 : Int) h => (E29_1 N call) (T29_1 x_0 x_1 x_5) (L29_1 x_0 x_1 x_5) h) = (C29_1 N call) := by
    funext x_0 x_1 x_5 h
    exact Z29_1 N call x_0 x_1 x_5 h
  have r := R29_0 N call y0 y1 h
  rw [e1] at r
  have z : S29_0 call (C29_1 N call) y0 y1 h = S29 N call y0 y1 h := by kernel_rfl
  exact r.trans z
theorem V29 (N : Nat) (call : CT) (vs : List AV) (h : H) : body Tryz.prog N call Tryz.f29 A29.an vs h = row2 (fun y0 y1 => S29 N call y0 y1 h) vs := wrap2 (by kernel_rfl) (fun y0 y1 => Z29 N call y0 y1 h) vs
/- (*sibyl/sibylref4.parser).pred -/
def A30.a0 : Ann := .items [.opL 0]
def A30.a1 : Ann := .items [.op 0, .op 1]
def A30.a2 : Ann := .items [.op 0, .op 1, .opL 2, .op 3]
def A30.a3 : Ann := .items [.op 0, .op 1, .op 2, .op 3, .op 4, .opL 5, .op 6]
def A30.a4 : Ann := .items [.op 0, .op 1]
def A30.a5 : Ann := .items [.op 0, .op 1, .op 2, .op 3]
def A30.a6 : Ann := .items [.op 0, .op 1]
def A30.a7 : Ann := .items [.op 0, .op 1, .op 2, .op 3]
def A30.a8 : Ann := .items [.op 0, .op 1]
def A30.a9 : Ann := .items [.op 0, .op 1]
def A30.a10 : Ann := .leaf
def A30.a11 : Ann := .two A30.a9 A30.a10
def A30.a12 : Ann := .two A30.a8 A30.a11
def A30.a13 : Ann := .two A30.a7 A30.a12
def A30.a14 : Ann := .two A30.a6 A30.a13
def A30.a15 : Ann := .two A30.a5 A30.a14
def A30.a16 : Ann := .two A30.a4 A30.a15
def A30.a17 : Ann := .two A30.a3 A30.a16
def A30.a18 : Ann := .two A30.a2 A30.a17
def A30.a19 : Ann := .two A30.a1 A30.a18
def A30.an : Ann := .two A30.a0 A30.a19
def S30_0 (call : CT) (y0 : AV) (h : H) : R :=
  onPtr y0 (fun p1 => bindR (call 55 [(.ptr p1)] h) (fun v2 h3 => onAgR v2 (fun l8 => row4 (fun x4 x5 x6 x7 => bindR (call 56 [(.ptr p1)] h3) (fun v9 h10 => onAgR v9 (fun l15 => row4 (fun x11 x12 x13 x14 => onStr x12 (fun s16 => onInt .i64 x14 (fun i17 => bindR (call 33 [(.ptr p1), (.str [40])] h10) (fun v18 h19 => bindR (call 57 [(.ptr p1)] h19) (fun v20 h21 => onSlice v20 (fun a22 n23 c24 => bindR (call 33 [(.ptr p1), (.str [61])] h21) (fun v25 h26 => bindR (call 32 [(.ptr p1), (.int .i64 (Int.ofNat 0))] h26) (fun v27 h28 => onAgR v27 (fun l34 => row5 (fun x29 x30 x31 x32 x33 => bindR (call 33 [(.ptr p1), (.str [59])] h28) (fun v35 h36 => some ((.agg [(.str s16), (.slice a22 n23 c24), x29, x30, x31, x32, x33, (.int .i64 i17)]), h36))) l34))))))))) l15))) l8)))
def S30 (N : Nat) (call : CT) (y0 : AV) (h : H) : R := S30_0 call y0 h
theorem R30_0 (N : Nat) (call : CT) (y0 : AV) (h : H) : body Tryz.prog N call Tryz.f30 A30.an [y0] h = S30_0 call y0 h := by kernel_rfl
theorem Z30 (N : Nat) (call : CT) (y0 : AV) (h : H) : body Tryz.prog N call Tryz.f30 A30.an [y0] h = S30 N call y0 h := by
  have r := R30_0 N call y0 h
  have z : S30_0 call y0 h = S30 N call y0 h := by kernel_rfl
  exact r.trans z
theorem V30 (N : Nat) (call : CT) (vs : List AV) (h : H) : body Tryz.prog N call Tryz.f30 A30.an vs h = row1 (fun y0 => S30 N call y0 h) vs := wrap1 (by kernel_rfl) (fun y0 => Z30 N call y0 h) vs
/- (*sibyl/sibylref4.parser).formula -/
def A32.a0 : Ann := .items [.opL 0]
def A32.a1 : Ann := .items [.op 0, .op 1, .op 2, .op 3]
def A32.a2 : Ann := .items [.op 0, .op 1]
def A32.a3 : Ann := .leaf
def A32.a4 : Ann := .two A32.a2 A32.a3
def A32.a5 : Ann := .leaf
def A32.a6 : Ann := .two A32.a4 A32.a5
def A32.a7 : Ann := .two A32.a1 A32.a6
def A32.a8 : Ann := .items [.op 0, .op 1, .op 2, .opL 3, .op 4]
def A32.a9 : Ann := .items [.op 0, .op 1]
def A32.a10 : Ann := .leaf
def A32.a11 : Ann := .leaf
def A32.a12 : Ann := .two A32.a10 A32.a11
def A32.a13 : Ann := .two A32.a9 A32.a12
def A32.a14 : Ann := .items [.op 0, .op 1, .opL 2, .op 3]
def A32.a15 : Ann := .drawn [.op 3, .op 4, .op 5, .op 2, .op 6, .op 0, .op 1, .op 7, .op 8]
def A32.a16 : Ann := .two A32.a14 A32.a15
def A32.a17 : Ann := .one A32.a16
def A32.a18 : Ann := .two A32.a13 A32.a17
def A32.a19 : Ann := .meet [0, 1, 4, 5] [4, 5] A32.a18
def A32.a20 : Ann := .one A32.a19
def A32.a21 : Ann := .items [.op 0, .op 1]
def A32.a22 : Ann := .leaf
def A32.a23 : Ann := .two A32.a21 A32.a22
def A32.a24 : Ann := .two A32.a20 A32.a23
def A32.a25 : Ann := .two A32.a8 A32.a24
def A32.a26 : Ann := .two A32.a7 A32.a25
def A32.an : Ann := .two A32.a0 A32.a26
def F32_1 (N : Nat) (call : CT) (self : K3) : K3 :=
  (codeK Tryz.prog N call (c1 (c1 (c1 (c2 (c2 (c2 (bodyOf Tryz.f32))))))) A32.a18 (fun T L h => self (keepT [0, 1, 4, 5] T) (keepL [4, 5] L) h) (fun i T L h => match Nat.beq i 0 with | true => (codeK Tryz.prog N call (c2 (c2 (c2 (c2 (bodyOf Tryz.f32))))) A32.a23 (resK Tryz.prog Tryz.f32.results.toList) (fun _ _ _ _ => none) (resK Tryz.prog Tryz.f32.results.toList)) T L h | false => (fun _ _ _ _ => none) i T L h) (resK Tryz.prog Tryz.f32.results.toList))
def E32_1 (N : Nat) (call : CT) : K3 := iter (F32_1 N call) N
def S32_1 (call : CT) (k1 : OA → Int → AV → AV → AV → AV → AV → AV → AV → AV → AV → AV → H → R) (x_0 : OA) (x_1 : Int) (l4_0 l4_1 : AV) (l4_2 l4_3 : AV) (l4_4 l5_0 : AV) (l5_1 l5_2 : AV) (l5_3 l5_4 : AV) (h : H) : R :=
  bindR (call 28 [(.ptr x_0), (.str [60, 61, 62])] h) (fun v1 h2 => onBool v1 (fun e3 => ifB e3 (bindR (call 55 [(.ptr x_0)] h2) (fun v4 h5 => onAgR v4 (fun l10 => row4 (fun x6 x7 x8 x9 => bindR (call 60 [(.ptr x_0), (.int .i64 x_1)] h5) (fun v11 h12 => onAgR v11 (fun l18 => row5 (fun x13 x14 x15 x16 x17 => guardB (sameAV (.agg [l5_0, l5_1, l5_2, l5_3, l5_4]) (.agg [l5_0, l5_1, l5_2, l5_3, l5_4])) (newK h12 [l5_0, l5_1, l5_2, l5_3, l5_4, x13, x14, x15, x16, x17] (fun b19 h20 => guardB (sameAV x9 x9) (guardB (sameAV x9 x9) (onInt .i64 x9 (fun i21 => k1 x_0 x_1 l4_0 l4_1 l4_2 l4_3 l4_4 (.str [105, 102, 102]) (.str []) (.int .i64 (Int.ofNat 0)) (.int .i64 i21) (.slice (some (b19, 0)) 2 (some 2)) h20)))))) l18))) l10))) (some ((.agg [l5_0, l5_1, l5_2, l5_3, l5_4]), h2))))
def S32_0 (call : CT) (k1 : OA → Int → AV → AV → AV → AV → AV → AV → AV → AV → AV → AV → H → R) (y0 y1 : AV) (h : H) : R :=
  onPtr y0 (fun p1 => onInt .i64 y1 (fun i2 => bindR (call 59 [(.ptr p1), (.int .i64 i2)] h) (fun v3 h4 => onBool v3 (fun e5 => ifB (!e5) (some ((.agg [(.str []), (.str []), (.int .i64 (Int.ofNat 0)), (.int .i64 (Int.ofNat 0)), (.slice none 0 (some 0))]), h4)) (bindR (call 60 [(.ptr p1), (.int .i64 i2)] h4) (fun v6 h7 => onAgR v6 (fun l13 => row5 (fun x8 x9 x10 x11 x12 => k1 p1 i2 (.str []) (.str []) (.int .i64 (Int.ofNat 0)) (.int .i64 (Int.ofNat 0)) (.slice none 0 (some 0)) x8 x9 x10 x11 x12 h7) l13)))))))
def B32_1 (N : Nat) (call : CT) (ih : OA → Int → AV → AV → AV → AV → AV → AV → AV → AV → AV → AV → H → R) : OA → Int → AV → AV → AV → AV → AV → AV → AV → AV → AV → AV → H → R := S32_1 call ih
def I32_1 (N : Nat) (call : CT) (n : Nat) : OA → Int → AV → AV → AV → AV → AV → AV → AV → AV → AV → AV → H → R := Nat.rec (motive := fun _ => OA → Int → AV → AV → AV → AV → AV → AV → AV → AV → AV → AV → H → R) (fun _ _ _ _ _ _ _ _ _ _ _ _ _ => none) (fun _ ih => B32_1 N call ih) n
def C32_1 (N : Nat) (call : CT) : OA → Int → AV → AV → AV → AV → AV → AV → AV → AV → AV → AV → H → R := I32_1 N call N
def S32 (N : Nat) (call : CT) (y0 y1 : AV) (h : H) : R := S32_0 call (C32_1 N call) y0 y1 h
def T32_1 (x_0 : OA) (x_1 : Int) (l4_0 l4_1 : AV) (l4_2 l4_3 : AV) (l4_4 l5_0 : AV) (l5_1 l5_2 : AV) (l5_3 l5_4 : AV) : LF := [(some (.v (.ptr x_0))), (some (.v (.int .i64 x_1))), none, none, (some (.lptr 4 0)), (some (.lptr 5 0)), oo, oo, oo, oo, oo, oo, oo, oo, oo, oo, oo, oo, oo, oo, oo, oo, oo, oo, oo, oo, oo, oo]
def L32_1 (x_0 : OA) (x_1 : Int) (l4_0 l4_1 : AV) (l4_2 l4_3 : AV) (l4_4 l5_0 : AV) (l5_1 l5_2 : AV) (l5_3 l5_4 : AV) : LL := [oo, oo, oo, oo, (some (.cells [l4_0, l4_1, l4_2, l4_3, l4_4])), (some (.cells [l5_0, l5_1, l5_2, l5_3, l5_4])), oo, oo, oo, oo, oo, oo, oo, oo, oo, oo, oo, oo, oo, oo, oo, oo, oo, oo, oo, oo, oo, oo]
theorem R32_1 (N : Nat) (call : CT) (self : K3) (x_0 : OA) (x_1 : Int) (l4_0 l4_1 : AV) (l4_2 l4_3 : AV) (l4_4 l5_0 : AV) (l5_1 l5_2 : AV) (l5_3 l5_4 : AV) (h : H) : F32_1 N call self (T32_1 x_0 x_1 l4_0 l4_1 l4_2 l4_3 l4_4 l5_0 l5_1 l5_2 l5_3 l5_4) (L32_1 x_0 x_1 l4_0 l4_1 l4_2 l4_3 l4_4 l5_0 l5_1 l5_2 l5_3 l5_4) h = S32_1 call (fun (x_0 : OA) (x_1 : Int) (l4_0 l4_1 : AV) (l4_2 l4_3 : AV) (l4_4 l5_0 : AV) (l5_1 l5_2 : AV) (l5_3 l5_4 : AV) h => self (T32_1 x_0 x_1 l4_0 l4_1 l4_2 l4_3 l4_4 l5_0 l5_1 l5_2 l5_3 l5_4) (L32_1 x_0 x_1 l4_0 l4_1 l4_2 l4_3 l4_4 l5_0 l5_1 l5_2 l5_3 l5_4) h) x_0 x_1 l4_0 l4_1 l4_2 l4_3 l4_4 l5_0 l5_1 l5_2 l5_3 l5_4 h := by kernel_rfl
theorem Q32_1 (N : Nat) (call : CT) (n : Nat) : ∀ (x_0 : OA) (x_1 : Int) (l4_0 l4_1 : AV) (l4_2 l4_3 : AV) (l4_4 l5_0 : AV) (l5_1 l5_2 : AV) (l5_3 l5_4 : AV) (h : H), (iter (F32_1 N call) n) (T32_1 x_0 x_1 l4_0 l4_1 l4_2 l4_3 l4_4 l5_0 l5_1 l5_2 l5_3 l5_4) (L32_1 x_0 x_1 l4_0 l4_1 l4_2 l4_3 l4_4 l5_0 l5_1 l5_2 l5_3 l5_4) h = I32_1 N call n x_0 x_1 l4_0 l4_1 l4_2 l4_3 l4_4 l5_0 l5_1 l5_2 l5_3 l5_4 h := by
  induction n with
  | zero => intros; exact (iter_zero _ _ _ _).trans (by kernel_rfl)
  | succ n ih =>
    intro x_0 x_1 l4_0 l4_1 l4_2 l4_3 l4_4 l5_0 l5_1 l5_2 l5_3 l5_4 h
    have e0 : (fun (x_0 : OA) (x_1 : Int) (l4_0 l4_1 : AV) (l4_2 l4_3 : AV) (l4_4 l5_0 : AV) (l5_1 l5_2 : AV) (l5_3 l5_4 : AV) h => (iter (F32_1 N call) n) (T32_1 x_0 x_1 l4_0 l4_1 l4_2 l4_3 l4_4 l5_0 l5_1 l5_2 l5_3 l5_4) (L32_1 x_0 x_1 l4_0 l4_1 l4_2 l4_3 l4_4 l5_0 l5_1 l5_2 l5_3 l5_4) h) = (I32_1 N call n) := by funext x_0 x_1 l4_0 l4_1 l4_2 l4_3 l4_4 l5_0 l5_1 l5_2 l5_3 l5_4 h; exact ih x_0 x_1 l4_0 l4_1 l4_2 l4_3 l4_4 l5_0 l5_1 l5_2 l5_3 l5_4 h
    have r := R32_1 N call (iter (F32_1 N call) n) x_0 x_1 l4_0 l4_1 l4_2 l4_3 l4_4 l5_0 l5_1 l5_2 l5_3 l5_4 h
    rw [e0] at r
    have g := iter_succ (F32_1 N call) n (T32_1 x_0 x_1 l4_0 l4_1 l4_2 l4_3 l4_4 l5_0 l5_1 l5_2 l5_3 l5_4) (L32_1 x_0 x_1 l4_0 l4_1 l4_2 l4_3 l4_4 l5_0 l5_1 l5_2 l5_3 l5_4) h
    have z : S32_1 call (I32_1 N call n) x_0 x_1 l4_0 l4_1 l4_2 l4_3 l4_4 l5_0 l5_1 l5_2 l5_3 l5_4 h = I32_1 N call (n + 1) x_0 x_1 l4_0 l4_1 l4_2 l4_3 l4_4 l5_0 l5_1 l5_2 l5_3 l5_4 h := by kernel_rfl
    exact g.trans (r.trans z)
theorem Z32_1 (N : Nat) (call : CT) (x_0 : OA) (x_1 : Int) (l4_0 l4_1 : AV) (l4_2 l4_3 : AV) (l4_4 l5_0 : AV) (l5_1 l5_2 : AV) (l5_3 l5_4 : AV) (h : H) : (E32_1 N call) (T32_1 x_0 x_1 l4_0 l4_1 l4_2 l4_3 l4_4 l5_0 l5_1 l5_2 l5_3 l5_4) (L32_1 x_0 x_1 l4_0 l4_1 l4_2 l4_3 l4_4 l5_0 l5_1 l5_2 l5_3 l5_4) h = C32_1 N call x_0 x_1 l4_0 l4_1 l4_2 l4_3 l4_4 l5_0 l5_1 l5_2 l5_3 l5_4 h := by
  have g : (E32_1 N call) (T32_1 x_0 x_1 l4_0 l4_1 l4_2 l4_3 l4_4 l5_0 l5_1 l5_2 l5_3 l5_4) (L32_1 x_0 x_1 l4_0 l4_1 l4_2 l4_3 l4_4 l5_0 l5_1 l5_2 l5_3 l5_4) h = iter (F32_1 N call) N (T32_1 x_0 x_1 l4_0 l4_1 l4_2 l4_3 l4_4 l5_0 l5_1 l5_2 l5_3 l5_4) (L32_1 x_0 x_1 l4_0 l4_1 l4_2 l4_3 l4_4 l5_0 l5_1 l5_2 l5_3 l5_4) h := by kernel_rfl
  have z : I32_1 N call N x_0 x_1 l4_0 l4_1 l4_2 l4_3 l4_4 l5_0 l5_1 l5_2 l5_3 l5_4 h = C32_1 N call x_0 x_1 l4_0 l4_1 l4_2 l4_3 l4_4 l5_0 l5_1 l5_2 l5_3 l5_4 h := by kernel_rfl
  exact g.trans ((Q32_1 N call N x_0 x_1 l4_0 l4_1 l4_2 l4_3 l4_4 l5_0 l5_1 l5_2 l5_3 l5_4 h).trans z)
theorem R32_0 (N : Nat) (call : CT) (y0 y1 : AV) (h : H) : body Tryz.prog N call Tryz.f32 A32.an [y0, y1] h = S32_0 call (fun (x_0 : OA) (x_1 : Int) (l4_0 l4_1 : AV) (l4_2 l4_3 : AV) (l4_4 l5_0 : AV) (l5_1 l5_2 : AV) (l5_3 l5_4 : AV) h => (E32_1 N call) (T32_1 x_0 x_1 l4_0 l4_1 l4_2 l4_3 l4_4 l5_0 l5_1 l5_2 l5_3 l5_4) (L32_1 x_0 x_1 l4_0 l4_1 l4_2 l4_3 l4_4 l5_0 l5_1 l5_2 l5_3 l5_4) h) y0 y1 h := by kernel_rfl
theorem Z32 (N : Nat) (call : CT) (y0 y1 : AV) (h : H) : body Tryz.prog N call Tryz.f32 A32.an [y0, y1] h = S32 N call y0 y1 h := by
  have e1 : (fun (x_0 : OA) (x_1 : Int) (l4_0 l4_1 : AV) (l4_2 l4_3 : AV) (l4_4 l5_0 : AV) (l5_1 l5_2 : AV) (l5_3 l5_4 : AV) h => (E32_1 N call) (T32_1 x_0 x_1 l4_0 l4_1 l4_2 l4_3 l4_4 l5_0 l5_1 l5_2 l5_3 l5_4) (L32_1 x_0 x_1 l4_0 l4_1 l4_2 l4_3 l4_4 l5_0 l5_1 l5_2 l5_3 l5_4) h) = (C32_1 N call) := by
    funext x_0 x_1 l4_0 l4_1 l4_2 l4_3 l4_4 l5_0 l5_1 l5_2 l5_3 l5_4 h
    exact Z32_1 N call x_0 x_1 l4_0 l4_1 l4_2 l4_3 l4_4 l5_0 l5_1 l5_2 l5_3 l5_4 h
  have r := R32_0 N call y0 y1 h
  rw [e1] at r
  have z : S32_0 call (C32_1 N call) y0 y1 h = S32 N call y0 y1 h := by kernel_rfl
  exact r.trans z
theorem V32 (N : Nat) (call : CT) (vs : List AV) (h : H) : body Tryz.prog N call Tryz.f32 A32.an vs h = row2 (fun y0 y1 => S32 N call y0 y1 h) vs := wrap2 (by kernel_rfl) (fun y0 y1 => Z32 N call y0 y1 h) vs
/- (*sibyl/sibylref4.parser).must -/
def A33.a0 : Ann := .items [.op 0, .op 1, .op 2, .op 3]
def A33.a1 : Ann := .items [.op 0, .op 1, .op 2, .op 3, .op 4]
def A33.a2 : Ann := .leaf
def A33.a3 : Ann := .two A33.a1 A33.a2
def A33.an : Ann := .two A33.a0 A33.a3
def S33_0 (call : CT) (y0 y1 : AV) (h : H) : R :=
  onPtr y0 (fun p1 => onStr y1 (fun s2 => bindR (call 58 [(.ptr p1), (.str s2)] h) (fun v3 h4 => onBool v3 (fun e5 => ifB (!e5) (bindR (call 34 [(.ptr p1)] h4) (fun v6 h7 => onAgR v6 (fun l12 => row4 (fun x8 x9 x10 x11 => onInt .i64 x11 (fun i13 => bindR (call 35 [(.ptr p1), (.int .i64 i13), (.int .i64 (Int.ofNat 2))] h7) (fun v14 h15 => some (.tuple [], h15)))) l12))) (some (.tuple [], h4))))))
def S33 (N : Nat) (call : CT) (y0 y1 : AV) (h : H) : R := S33_0 call y0 y1 h
theorem R33_0 (N : Nat) (call : CT) (y0 y1 : AV) (h : H) : body Tryz.prog N call Tryz.f33 A33.an [y0, y1] h = S33_0 call y0 y1 h := by kernel_rfl
theorem Z33 (N : Nat) (call : CT) (y0 y1 : AV) (h : H) : body Tryz.prog N call Tryz.f33 A33.an [y0, y1] h = S33 N call y0 y1 h := by
  have r := R33_0 N call y0 y1 h
  have z : S33_0 call y0 y1 h = S33 N call y0 y1 h := by kernel_rfl
  exact r.trans z
theorem V33 (N : Nat) (call : CT) (vs : List AV) (h : H) : body Tryz.prog N call Tryz.f33 A33.an vs h = row2 (fun y0 y1 => S33 N call y0 y1 h) vs := wrap2 (by kernel_rfl) (fun y0 y1 => Z33 N call y0 y1 h) vs
/- (*sibyl/sibylref4.parser).now -/
def A34.a0 : Ann := .items [.opL 0]
def A34.a1 : Ann := .items [.op 0, .op 1, .op 2, .op 3, .op 4]
def A34.a2 : Ann := .items [.op 0, .op 1]
def A34.a3 : Ann := .leaf
def A34.a4 : Ann := .two A34.a2 A34.a3
def A34.a5 : Ann := .leaf
def A34.a6 : Ann := .two A34.a4 A34.a5
def A34.a7 : Ann := .two A34.a1 A34.a6
def A34.a8 : Ann := .drawn [.op 0, .op 1, .op 2, .op 3, .op 4, .op 5, .op 6, .op 7, .op 8, .op 9, .op 10]
def A34.a9 : Ann := .leaf
def A34.a10 : Ann := .two A34.a8 A34.a9
def A34.a11 : Ann := .two A34.a7 A34.a10
def A34.an : Ann := .two A34.a0 A34.a11
def S34_0 (call : CT) (y0 : AV) (h : H) : R :=
  onPtr y0 (fun p1 => onSome p1 (fun b2 o3 => ldK h b2 (o3 + 2) 1 (one (fun v4 => onInt .i64 v4 (fun i5 => ifB (!eqI i5 (Int.ofNat 0)) (some ((.agg [(.int .i64 (Int.ofNat 4)), (.str []), (.int .i64 (Int.ofNat 0)), (.int .i64 (Int.ofNat 0))]), h)) (onSome p1 (fun b6 o7 => ldK h b6 (o7 + 0) 1 (one (fun v8 => onSlice v8 (fun a9 n10 c11 => onSome p1 (fun b12 o13 => ldK h b12 (o13 + 1) 1 (one (fun v14 => onInt .i64 v14 (fun i15 => idxAddr 4 a9 n10 i15 (fun b16 o17 => ldK h b16 o17 4 (fun l18 => row4 (fun x19 x20 x21 x22 => some ((.agg [x19, x20, x21, x22]), h)) l18))))))))))))))))
def S34 (N : Nat) (call : CT) (y0 : AV) (h : H) : R := S34_0 call y0 h
theorem R34_0 (N : Nat) (call : CT) (y0 : AV) (h : H) : body Tryz.prog N call Tryz.f34 A34.an [y0] h = S34_0 call y0 h := by kernel_rfl
theorem Z34 (N : Nat) (call : CT) (y0 : AV) (h : H) : body Tryz.prog N call Tryz.f34 A34.an [y0] h = S34 N call y0 h := by
  have r := R34_0 N call y0 h
  have z : S34_0 call y0 h = S34 N call y0 h := by kernel_rfl
  exact r.trans z
theorem V34 (N : Nat) (call : CT) (vs : List AV) (h : H) : body Tryz.prog N call Tryz.f34 A34.an vs h = row1 (fun y0 => S34 N call y0 h) vs := wrap1 (by kernel_rfl) (fun y0 => Z34 N call y0 h) vs
/- sibyl/tree.areDecls -/
def A39.a0 : Ann := .items [.op 0]
def A39.a1 : Ann := .items [.op 0, .op 1, .op 2, .op 3]
def A39.a2 : Ann := .leaf
def A39.a3 : Ann := .two A39.a1 A39.a2
def A39.an : Ann := .two A39.a0 A39.a3
def S39_0 (call : CT) (y0 : AV) (h : H) : R :=
  onSlice y0 (fun a1 n2 c3 => bindR (call 72 [(.slice a1 n2 c3), (.func 73 [] [])] h) (fun v4 h5 => onBool v4 (fun e6 => some ((.bool (!e6)), h5))))
def S39 (N : Nat) (call : CT) (y0 : AV) (h : H) : R := S39_0 call y0 h
theorem R39_0 (N : Nat) (call : CT) (y0 : AV) (h : H) : body Tryz.prog N call Tryz.f39 A39.an [y0] h = S39_0 call y0 h := by kernel_rfl
theorem Z39 (N : Nat) (call : CT) (y0 : AV) (h : H) : body Tryz.prog N call Tryz.f39 A39.an [y0] h = S39 N call y0 h := by
  have r := R39_0 N call y0 h
  have z : S39_0 call y0 h = S39 N call y0 h := by kernel_rfl
  exact r.trans z
theorem V39 (N : Nat) (call : CT) (vs : List AV) (h : H) : body Tryz.prog N call Tryz.f39 A39.an vs h = row1 (fun y0 => S39 N call y0 h) vs := wrap1 (by kernel_rfl) (fun y0 => Z39 N call y0 h) vs
/- slices.ContainsFunc[[]sibyl/api.Pred,sibyl/api.Pred] -/
def A40.a0 : Ann := .items [.op 0]
def A40.a1 : Ann := .items [.op 0, .op 1, .op 2, .op 3, .op 4]
def A40.a2 : Ann := .leaf
def A40.a3 : Ann := .two A40.a1 A40.a2
def A40.an : Ann := .two A40.a0 A40.a3
def S40_0 (call : CT) (y0 y1 : AV) (h : H) : R :=
  onSlice y0 (fun a1 n2 c3 => bindR (call 75 [(.slice a1 n2 c3), y1] h) (fun v4 h5 => onInt .i64 v4 (fun i6 => some ((.bool (leI (Int.ofNat 0) i6)), h5))))
def S40 (N : Nat) (call : CT) (y0 y1 : AV) (h : H) : R := S40_0 call y0 y1 h
theorem R40_0 (N : Nat) (call : CT) (y0 y1 : AV) (h : H) : body Tryz.prog N call Tryz.f40 A40.an [y0, y1] h = S40_0 call y0 y1 h := by kernel_rfl
theorem Z40 (N : Nat) (call : CT) (y0 y1 : AV) (h : H) : body Tryz.prog N call Tryz.f40 A40.an [y0, y1] h = S40 N call y0 y1 h := by
  have r := R40_0 N call y0 y1 h
  have z : S40_0 call y0 y1 h = S40 N call y0 y1 h := by kernel_rfl
  exact r.trans z
theorem V40 (N : Nat) (call : CT) (vs : List AV) (h : H) : body Tryz.prog N call Tryz.f40 A40.an vs h = row2 (fun y0 y1 => S40 N call y0 y1 h) vs := wrap2 (by kernel_rfl) (fun y0 y1 => Z40 N call y0 y1 h) vs
/- sibyl/tree.Is$1 -/
def A41.a0 : Ann := .items [.opL 0, .op 1]
def A41.a1 : Ann := .items [.op 0, .op 1, .op 2, .op 3]
def A41.a2 : Ann := .leaf
def A41.a3 : Ann := .two A41.a1 A41.a2
def A41.an : Ann := .two A41.a0 A41.a3
def S41_0 (call : CT) (y0 : AV) (h : H) : R :=
  onAgR y0 (fun l9 => row8 (fun x1 x2 x3 x4 x5 x6 x7 x8 => bindR (call 42 [(.agg [x1, x2, x3, x4, x5, x6, x7, x8])] h) (fun v10 h11 => onBool v10 (fun e12 => some ((.bool (!e12)), h11)))) l9)
def S41 (N : Nat) (call : CT) (y0 : AV) (h : H) : R := S41_0 call y0 h
theorem R41_0 (N : Nat) (call : CT) (y0 : AV) (h : H) : body Tryz.prog N call Tryz.f41 A41.an [y0] h = S41_0 call y0 h := by kernel_rfl
theorem Z41 (N : Nat) (call : CT) (y0 : AV) (h : H) : body Tryz.prog N call Tryz.f41 A41.an [y0] h = S41 N call y0 h := by
  have r := R41_0 N call y0 h
  have z : S41_0 call y0 h = S41 N call y0 h := by kernel_rfl
  exact r.trans z
theorem V41 (N : Nat) (call : CT) (vs : List AV) (h : H) : body Tryz.prog N call Tryz.f41 A41.an vs h = row1 (fun y0 => S41 N call y0 h) vs := wrap1 (by kernel_rfl) (fun y0 => Z41 N call y0 h) vs
/- sibyl/tree.isPred -/
def A42.a0 : Ann := .items [.opL 0, .op 1]
def A42.a1 : Ann := .items [.op 0, .op 1, .op 2, .op 3, .split 6, .op 4, .op 5, .op 6, .op 7, .op 8, .op 9, .split 12, .op 10, .op 11, .op 12, .op 13, .op 14, .split 17, .op 15, .op 16, .op 17, .op 18, .op 19]
def A42.a2 : Ann := .leaf
def A42.a3 : Ann := .two A42.a1 A42.a2
def A42.an : Ann := .two A42.a0 A42.a3
def S42_0 (call : CT) (y0 : AV) (h : H) : R :=
  onAgR y0 (fun l9 => row8 (fun x1 x2 x3 x4 x5 x6 x7 x8 => onStr x1 (fun s10 => bindR (call 76 [(.str s10)] h) (fun v11 h12 => onBool v11 (fun e13 => ifB e13 (onSlice x2 (fun a14 n15 c16 => ifB (leI (Int.ofNat n15) (Int.ofNat 6)) (onSlice x2 (fun a17 n18 c19 => bindR (call 39 [(.slice a17 n18 c19)] h12) (fun v20 h21 => onBool v20 (fun e22 => ifB e22 (bindR (call 43 [(.agg [x3, x4, x5, x6, x7])] h21) (fun v23 h24 => onBool v23 (fun e25 => some ((.bool e25), h24)))) (some ((.bool false), h21)))))) (some ((.bool false), h12)))) (some ((.bool false), h12)))))) l9)
def S42 (N : Nat) (call : CT) (y0 : AV) (h : H) : R := S42_0 call y0 h
theorem R42_0 (N : Nat) (call : CT) (y0 : AV) (h : H) : body Tryz.prog N call Tryz.f42 A42.an [y0] h = S42_0 call y0 h := by kernel_rfl
theorem Z42 (N : Nat) (call : CT) (y0 : AV) (h : H) : body Tryz.prog N call Tryz.f42 A42.an [y0] h = S42 N call y0 h := by
  have r := R42_0 N call y0 h
  have z : S42_0 call y0 h = S42 N call y0 h := by kernel_rfl
  exact r.trans z
theorem V42 (N : Nat) (call : CT) (vs : List AV) (h : H) : body Tryz.prog N call Tryz.f42 A42.an vs h = row1 (fun y0 => S42 N call y0 h) vs := wrap1 (by kernel_rfl) (fun y0 => Z42 N call y0 h) vs
/- sibyl/tree.IsFormula -/
def A43.a0 : Ann := .items [.opL 0, .op 1]
def A43.a1 : Ann := .items [.op 0, .op 1, .op 2, .split 5, .op 3, .op 4, .op 5, .op 6]
def A43.a2 : Ann := .leaf
def A43.a3 : Ann := .two A43.a1 A43.a2
def A43.an : Ann := .two A43.a0 A43.a3
def S43_0 (call : CT) (y0 : AV) (h : H) : R :=
  onAgR y0 (fun l6 => row5 (fun x1 x2 x3 x4 x5 => bindR (call 77 [(.agg [x1, x2, x3, x4, x5])] h) (fun v7 h8 => onBool v7 (fun e9 => ifB e9 (bindR (call 78 [(.agg [x1, x2, x3, x4, x5])] h8) (fun v10 h11 => onBool v10 (fun e12 => some ((.bool e12), h11)))) (some ((.bool false), h8))))) l6)
def S43 (N : Nat) (call : CT) (y0 : AV) (h : H) : R := S43_0 call y0 h
theorem R43_0 (N : Nat) (call : CT) (y0 : AV) (h : H) : body Tryz.prog N call Tryz.f43 A43.an [y0] h = S43_0 call y0 h := by kernel_rfl
theorem Z43 (N : Nat) (call : CT) (y0 : AV) (h : H) : body Tryz.prog N call Tryz.f43 A43.an [y0] h = S43 N call y0 h := by
  have r := R43_0 N call y0 h
  have z : S43_0 call y0 h = S43 N call y0 h := by kernel_rfl
  exact r.trans z
theorem V43 (N : Nat) (call : CT) (vs : List AV) (h : H) : body Tryz.prog N call Tryz.f43 A43.an vs h = row1 (fun y0 => S43 N call y0 h) vs := wrap1 (by kernel_rfl) (fun y0 => Z43 N call y0 h) vs
/- (*sibyl/kinds.checker).pred$1 -/
def A45.a0 : Ann := .items [.opL 0, .op 1]
def A45.a1 : Ann := .items [.op 0, .op 1, .op 2, .op 3, .op 4, .op 5]
def A45.a2 : Ann := .leaf
def A45.a3 : Ann := .two A45.a1 A45.a2
def A45.an : Ann := .two A45.a0 A45.a3
def S45_0 (call : CT) (y0 y1 : AV) (h : H) : R :=
  onAgR y0 (fun l9 => row8 (fun x1 x2 x3 x4 x5 x6 x7 x8 => onPtr y1 (fun p10 => onSome p10 (fun b11 o12 => onStr x1 (fun s13 => ldK h b11 (o12 + 0) 1 (one (fun v14 => onStr v14 (fun s15 => some ((.bool (eqS s13 s15)), h)))))))) l9)
def S45 (N : Nat) (call : CT) (y0 y1 : AV) (h : H) : R := S45_0 call y0 y1 h
theorem R45_0 (N : Nat) (call : CT) (y0 y1 : AV) (h : H) : body Tryz.prog N call Tryz.f45 A45.an [y0, y1] h = S45_0 call y0 y1 h := by kernel_rfl
theorem Z45 (N : Nat) (call : CT) (y0 y1 : AV) (h : H) : body Tryz.prog N call Tryz.f45 A45.an [y0, y1] h = S45 N call y0 y1 h := by
  have r := R45_0 N call y0 y1 h
  have z : S45_0 call y0 y1 h = S45 N call y0 y1 h := by kernel_rfl
  exact r.trans z
theorem V45 (N : Nat) (call : CT) (vs : List AV) (h : H) : body Tryz.prog N call Tryz.f45 A45.an vs h = row2 (fun y0 y1 => S45 N call y0 y1 h) vs := wrap2 (by kernel_rfl) (fun y0 y1 => Z45 N call y0 y1 h) vs
/- (*sibyl/kinds.checker).call -/
def A46.a0 : Ann := .items [.op 0, .op 1, .op 2]
def A46.a1 : Ann := .items [.op 0, .op 1, .op 2, .op 3, .op 4, .op 5, .op 6]
def A46.a2 : Ann := .items [.op 0, .op 1]
def A46.a3 : Ann := .items [.op 0, .op 1, .op 2, .op 3]
def A46.a4 : Ann := .leaf
def A46.a5 : Ann := .two A46.a3 A46.a4
def A46.a6 : Ann := .leaf
def A46.a7 : Ann := .two A46.a5 A46.a6
def A46.a8 : Ann := .two A46.a2 A46.a7
def A46.a9 : Ann := .items [.op 0, .op 1, .op 2, .op 3, .op 4, .op 5, .op 6, .op 7, .op 8]
def A46.a10 : Ann := .items [.op 0, .op 1, .op 2, .op 3, .op 4, .op 5]
def A46.a11 : Ann := .items [.op 0, .op 1, .op 2, .op 3]
def A46.a12 : Ann := .leaf
def A46.a13 : Ann := .two A46.a11 A46.a12
def A46.a14 : Ann := .leaf
def A46.a15 : Ann := .two A46.a13 A46.a14
def A46.a16 : Ann := .two A46.a10 A46.a15
def A46.a17 : Ann := .items [.op 0, .op 1, .op 2, .op 3]
def A46.a18 : Ann := .items [.op 0]
def A46.a19 : Ann := .leaf
def A46.a20 : Ann := .leaf
def A46.a21 : Ann := .two A46.a19 A46.a20
def A46.a22 : Ann := .items [.op 0, .op 1, .op 2, .opL 3, .op 4, .op 5]
def A46.a23 : Ann := .items [.op 0, .op 1, .op 2, .op 3, .op 4, .op 5, .op 6, .op 7, .op 8, .op 9]
def A46.a24 : Ann := .items [.op 0, .op 1]
def A46.a25 : Ann := .items [.op 0, .op 1, .op 2, .op 3]
def A46.a26 : Ann := .leaf
def A46.a27 : Ann := .two A46.a25 A46.a26
def A46.a28 : Ann := .leaf
def A46.a29 : Ann := .two A46.a27 A46.a28
def A46.a30 : Ann := .two A46.a24 A46.a29
def A46.a31 : Ann := .items [.op 0, .op 1, .op 2, .op 3, .op 4, .op 5, .op 6]
def A46.a32 : Ann := .items [.op 0, .op 1, .op 2, .op 3]
def A46.a33 : Ann := .leaf
def A46.a34 : Ann := .two A46.a32 A46.a33
def A46.a35 : Ann := .leaf
def A46.a36 : Ann := .two A46.a34 A46.a35
def A46.a37 : Ann := .two A46.a31 A46.a36
def A46.a38 : Ann := .two A46.a30 A46.a37
def A46.a39 : Ann := .two A46.a23 A46.a38
def A46.a40 : Ann := .two A46.a22 A46.a39
def A46.a41 : Ann := .one A46.a40
def A46.a42 : Ann := .items [.op 0, .op 1]
def A46.a43 : Ann := .two A46.a41 A46.a42
def A46.a44 : Ann := .two A46.a21 A46.a43
def A46.a45 : Ann := .two A46.a18 A46.a44
def A46.a46 : Ann := .meet [1, 5, 9, 42, 43, 44] [] A46.a45
def A46.a47 : Ann := .one A46.a46
def A46.a48 : Ann := .two A46.a17 A46.a47
def A46.a49 : Ann := .items [.op 0, .op 1]
def A46.a50 : Ann := .leaf
def A46.a51 : Ann := .two A46.a49 A46.a50
def A46.a52 : Ann := .two A46.a48 A46.a51
def A46.a53 : Ann := .two A46.a16 A46.a52
def A46.a54 : Ann := .two A46.a9 A46.a53
def A46.a55 : Ann := .two A46.a8 A46.a54
def A46.a56 : Ann := .two A46.a1 A46.a55
def A46.an : Ann := .two A46.a0 A46.a56
def F46_1 (N : Nat) (call : CT) (self : K3) : K3 :=
  (codeK Tryz.prog N call (c1 (c1 (c2 (c1 (c2 (c2 (c2 (c2 (c2 (bodyOf Tryz.f46)))))))))) A46.a45 (fun T L h => self (keepT [1, 5, 9, 42, 43, 44] T) (keepL [] L) h) (fun i T L h => match Nat.beq i 0 with | true => (codeK Tryz.prog N call (c2 (c2 (c2 (c2 (c2 (c2 (bodyOf Tryz.f46))))))) A46.a51 (resK Tryz.prog Tryz.f46.results.toList) (fun _ _ _ _ => none) (resK Tryz.prog Tryz.f46.results.toList)) T L h | false => (fun _ _ _ _ => none) i T L h) (resK Tryz.prog Tryz.f46.results.toList))
def E46_1 (N : Nat) (call : CT) : K3 := iter (F46_1 N call) N
def S46_1 (call : CT) (k1 : OA → Nat → Option Nat → Nat → Nat → OA → Nat → Option Nat → OA → Nat → Option Nat → Int → Int → H → R) (a_1 : OA) (n_1 : Nat) (c_1 : Option Nat) (b_5 o_5 : Nat) (a_9 : OA) (n_9 : Nat) (c_9 : Option Nat) (a_42 : OA) (n_42 : Nat) (c_42 : Option Nat) (x_43 x_44 : Int) (h : H) : R :=
  ifB (ltI x_44 x_43) (idxAddr 5 a_42 n_42 x_44 (fun b1 o2 => ldK h b1 o2 5 (fun l3 => row5 (fun x4 x5 x6 x7 x8 => bindR (call 81 [(.slice a_1 n_1 c_1), (.agg [x4, x5, x6, x7, x8])] h) (fun v9 h10 => onTuple v9 0 (fun v11 => onInt .i64 v11 (fun i12 => onTuple v9 1 (fun v13 => onInt .i64 v13 (fun i14 => onTuple v9 2 (fun v15 => onInt .i64 v15 (fun i16 => ifB (!eqI i16 (Int.ofNat 0)) (some (.tuple [(.int .i64 i14), (.int .i64 i16)], h10)) (idxAddr 3 a_9 n_9 x_44 (fun b17 o18 => ldK h10 b17 (o18 + 1) 1 (one (fun v19 => onInt .i64 v19 (fun i20 => ifB (!eqI i12 i20) (ldK h10 b_5 (o_5 + 3) 1 (one (fun v21 => onInt .i64 v21 (fun i22 => some (.tuple [(.int .i64 i22), (.int .i64 (Int.ofNat 7))], h10))))) (k1 a_1 n_1 c_1 b_5 o_5 a_9 n_9 c_9 a_42 n_42 c_42 x_43 (wrapF .i64 (Int.add x_44 (Int.ofNat 1))) h10)))))))))))))) l3))) (some (.tuple [(.int .i64 (Int.ofNat 0)), (.int .i64 (Int.ofNat 0))], h))
def S46_0 (call : CT) (k1 : OA → Nat → Option Nat → Nat → Nat → OA → Nat → Option Nat → OA → Nat → Option Nat → Int → Int → H → R) (y0 y1 y2 : AV) (h : H) : R :=
  onPtr y0 (fun p1 => onSlice y1 (fun a2 n3 c4 => onAgR y2 (fun l10 => row5 (fun x5 x6 x7 x8 x9 => newK h [x5, x6, x7, x8, x9] (fun b11 h12 => onSome p1 (fun b13 o14 => ldK h12 b13 (o14 + 0) 1 (one (fun v15 => onSlice v15 (fun a16 n17 c18 => bindR (call 75 [(.slice a16 n17 c18), (.func 80 [] [(.ptr (some (b11, 0)))])] h12) (fun v19 h20 => onInt .i64 v19 (fun i21 => ifB (ltI i21 (Int.ofNat 0)) (ldK h20 b11 3 1 (one (fun v22 => onInt .i64 v22 (fun i23 => some (.tuple [(.int .i64 i23), (.int .i64 (Int.ofNat 5))], h20))))) (onSome p1 (fun b24 o25 => ldK h20 b24 (o25 + 0) 1 (one (fun v26 => onSlice v26 (fun a27 n28 c29 => idxAddr 8 a27 n28 i21 (fun b30 o31 => ldK h20 b30 (o31 + 1) 1 (one (fun v32 => onSlice v32 (fun a33 n34 c35 => ldK h20 b11 4 1 (one (fun v36 => onSlice v36 (fun a37 n38 c39 => ifB (!eqI (Int.ofNat n34) (Int.ofNat n38)) (ldK h20 b11 3 1 (one (fun v40 => onInt .i64 v40 (fun i41 => some (.tuple [(.int .i64 i41), (.int .i64 (Int.ofNat 7))], h20))))) (ldK h20 b11 4 1 (one (fun v42 => onSlice v42 (fun a43 n44 c45 => k1 a2 n3 c4 b11 0 a33 n34 c35 a43 n44 c45 (Int.ofNat n44) (Int.ofNat 0) h20)))))))))))))))))))))))) l10)))
def B46_1 (N : Nat) (call : CT) (ih : OA → Nat → Option Nat → Nat → Nat → OA → Nat → Option Nat → OA → Nat → Option Nat → Int → Int → H → R) : OA → Nat → Option Nat → Nat → Nat → OA → Nat → Option Nat → OA → Nat → Option Nat → Int → Int → H → R := S46_1 call ih
def I46_1 (N : Nat) (call : CT) (n : Nat) : OA → Nat → Option Nat → Nat → Nat → OA → Nat → Option Nat → OA → Nat → Option Nat → Int → Int → H → R := Nat.rec (motive := fun _ => OA → Nat → Option Nat → Nat → Nat → OA → Nat → Option Nat → OA → Nat → Option Nat → Int → Int → H → R) (fun _ _ _ _ _ _ _ _ _ _ _ _ _ _ => none) (fun _ ih => B46_1 N call ih) n
def C46_1 (N : Nat) (call : CT) : OA → Nat → Option Nat → Nat → Nat → OA → Nat → Option Nat → OA → Nat → Option Nat → Int → Int → H → R := I46_1 N call N
def S46 (N : Nat) (call : CT) (y0 y1 y2 : AV) (h : H) : R := S46_0 call (C46_1 N call) y0 y1 y2 h
def T46_1 (a_1 : OA) (n_1 : Nat) (c_1 : Option Nat) (b_5 o_5 : Nat) (a_9 : OA) (n_9 : Nat) (c_9 : Option Nat) (a_42 : OA) (n_42 : Nat) (c_42 : Option Nat) (x_43 x_44 : Int) : LF := [none, (some (.v (.slice a_1 n_1 c_1))), oo, oo, oo, (some (.v (.ptr (some (b_5, o_5))))), oo, oo, oo, (some (.v (.slice a_9 n_9 c_9))), oo, oo, oo, oo, oo, oo, oo, oo, oo, oo, oo, oo, oo, oo, oo, oo, oo, oo, oo, oo, oo, oo, oo, oo, oo, oo, oo, oo, oo, oo, oo, oo, (some (.v (.slice a_42 n_42 c_42))), (some (.v (.int .i64 x_43))), (some (.v (.int .i64 x_44))), oo, oo, oo, oo, oo, oo, oo, oo, oo, oo, oo, oo, oo, oo, oo, oo, oo, oo, oo, oo, oo, oo, oo, oo, oo]
def L46_1 (a_1 : OA) (n_1 : Nat) (c_1 : Option Nat) (b_5 o_5 : Nat) (a_9 : OA) (n_9 : Nat) (c_9 : Option Nat) (a_42 : OA) (n_42 : Nat) (c_42 : Option Nat) (x_43 x_44 : Int) : LL := [oo, oo, oo, oo, oo, oo, oo, oo, oo, oo, oo, oo, oo, oo, oo, oo, oo, oo, oo, oo, oo, oo, oo, oo, oo, oo, oo, oo, oo, oo, oo, oo, oo, oo, oo, oo, oo, oo, oo, oo, oo, oo, oo, oo, oo, oo, oo, oo, oo, oo, oo, oo, oo, oo, oo, oo, oo, oo, oo, oo, oo, oo, oo, oo, oo, oo, oo, oo, oo, oo]
theorem R46_1 (N : Nat) (call : CT) (self : K3) (a_1 : OA) (n_1 : Nat) (c_1 : Option Nat) (b_5 o_5 : Nat) (a_9 : OA) (n_9 : Nat) (c_9 : Option Nat) (a_42 : OA) (n_42 : Nat) (c_42 : Option Nat) (x_43 x_44 : Int) (h : H) : F46_1 N call self (T46_1 a_1 n_1 c_1 b_5 o_5 a_9 n_9 c_9 a_42 n_42 c_42 x_43 x_44) (L46_1 a_1 n_1 c_1 b_5 o_5 a_9 n_9 c_9 a_42 n_42 c_42 x_43 x_44) h = S46_1 call (fun (a_1 : OA) (n_1 : Nat) (c_1 : Option Nat) (b_5 o_5 : Nat) (a_9 : OA) (n_9 : Nat) (c_9 : Option Nat) (a_42 : OA) (n_42 : Nat) (c_42 : Option Nat) (x_43 x_44 : Int) h => self (T46_1 a_1 n_1 c_1 b_5 o_5 a_9 n_9 c_9 a_42 n_42 c_42 x_43 x_44) (L46_1 a_1 n_1 c_1 b_5 o_5 a_9 n_9 c_9 a_42 n_42 c_42 x_43 x_44) h) a_1 n_1 c_1 b_5 o_5 a_9 n_9 c_9 a_42 n_42 c_42 x_43 x_44 h := by kernel_rfl
theorem Q46_1 (N : Nat) (call : CT) (n : Nat) : ∀ (a_1 : OA) (n_1 : Nat) (c_1 : Option Nat) (b_5 o_5 : Nat) (a_9 : OA) (n_9 : Nat) (c_9 : Option Nat) (a_42 : OA) (n_42 : Nat) (c_42 : Option Nat) (x_43 x_44 : Int) (h : H), (iter (F46_1 N call) n) (T46_1 a_1 n_1 c_1 b_5 o_5 a_9 n_9 c_9 a_42 n_42 c_42 x_43 x_44) (L46_1 a_1 n_1 c_1 b_5 o_5 a_9 n_9 c_9 a_42 n_42 c_42 x_43 x_44) h = I46_1 N call n a_1 n_1 c_1 b_5 o_5 a_9 n_9 c_9 a_42 n_42 c_42 x_43 x_44 h := by
  induction n with
  | zero => intros; exact (iter_zero _ _ _ _).trans (by kernel_rfl)
  | succ n ih =>
    intro a_1 n_1 c_1 b_5 o_5 a_9 n_9 c_9 a_42 n_42 c_42 x_43 x_44 h
    have e0 : (fun (a_1 : OA) (n_1 : Nat) (c_1 : Option Nat) (b_5 o_5 : Nat) (a_9 : OA) (n_9 : Nat) (c_9 : Option Nat) (a_42 : OA) (n_42 : Nat) (c_42 : Option Nat) (x_43 x_44 : Int) h => (iter (F46_1 N call) n) (T46_1 a_1 n_1 c_1 b_5 o_5 a_9 n_9 c_9 a_42 n_42 c_42 x_43 x_44) (L46_1 a_1 n_1 c_1 b_5 o_5 a_9 n_9 c_9 a_42 n_42 c_42 x_43 x_44) h) = (I46_1 N call n) := by funext a_1 n_1 c_1 b_5 o_5 a_9 n_9 c_9 a_42 n_42 c_42 x_43 x_44 h; exact ih a_1 n_1 c_1 b_5 o_5 a_9 n_9 c_9 a_42 n_42 c_42 x_43 x_44 h
    have r := R46_1 N call (iter (F46_1 N call) n) a_1 n_1 c_1 b_5 o_5 a_9 n_9 c_9 a_42 n_42 c_42 x_43 x_44 h
    rw [e0] at r
    have g := iter_succ (F46_1 N call) n (T46_1 a_1 n_1 c_1 b_5 o_5 a_9 n_9 c_9 a_42 n_42 c_42 x_43 x_44) (L46_1 a_1 n_1 c_1 b_5 o_5 a_9 n_9 c_9 a_42 n_42 c_42 x_43 x_44) h
    have z : S46_1 call (I46_1 N call n) a_1 n_1 c_1 b_5 o_5 a_9 n_9 c_9 a_42 n_42 c_42 x_43 x_44 h = I46_1 N call (n + 1) a_1 n_1 c_1 b_5 o_5 a_9 n_9 c_9 a_42 n_42 c_42 x_43 x_44 h := by kernel_rfl
    exact g.trans (r.trans z)
theorem Z46_1 (N : Nat) (call : CT) (a_1 : OA) (n_1 : Nat) (c_1 : Option Nat) (b_5 o_5 : Nat) (a_9 : OA) (n_9 : Nat) (c_9 : Option Nat) (a_42 : OA) (n_42 : Nat) (c_42 : Option Nat) (x_43 x_44 : Int) (h : H) : (E46_1 N call) (T46_1 a_1 n_1 c_1 b_5 o_5 a_9 n_9 c_9 a_42 n_42 c_42 x_43 x_44) (L46_1 a_1 n_1 c_1 b_5 o_5 a_9 n_9 c_9 a_42 n_42 c_42 x_43 x_44) h = C46_1 N call a_1 n_1 c_1 b_5 o_5 a_9 n_9 c_9 a_42 n_42 c_42 x_43 x_44 h := by
  have g : (E46_1 N call) (T46_1 a_1 n_1 c_1 b_5 o_5 a_9 n_9 c_9 a_42 n_42 c_42 x_43 x_44) (L46_1 a_1 n_1 c_1 b_5 o_5 a_9 n_9 c_9 a_42 n_42 c_42 x_43 x_44) h = iter (F46_1 N call) N (T46_1 a_1 n_1 c_1 b_5 o_5 a_9 n_9 c_9 a_42 n_42 c_42 x_43 x_44) (L46_1 a_1 n_1 c_1 b_5 o_5 a_9 n_9 c_9 a_42 n_42 c_42 x_43 x_44) h := by kernel_rfl
  have z : I46_1 N call N a_1 n_1 c_1 b_5 o_5 a_9 n_9 c_9 a_42 n_42 c_42 x_43 x_44 h = C46_1 N call a_1 n_1 c_1 b_5 o_5 a_9 n_9 c_9 a_42 n_42 c_42 x_43 x_44 h := by kernel_rfl
  exact g.trans ((Q46_1 N call N a_1 n_1 c_1 b_5 o_5 a_9 n_9 c_9 a_42 n_42 c_42 x_43 x_44 h).trans z)
theorem R46_0 (N : Nat) (call : CT) (y0 y1 y2 : AV) (h : H) : body Tryz.prog N call Tryz.f46 A46.an [y0, y1, y2] h = S46_0 call (fun (a_1 : OA) (n_1 : Nat) (c_1 : Option Nat) (b_5 o_5 : Nat) (a_9 : OA) (n_9 : Nat) (c_9 : Option Nat) (a_42 : OA) (n_42 : Nat) (c_42 : Option Nat) (x_43 x_44 : Int) h => (E46_1 N call) (T46_1 a_1 n_1 c_1 b_5 o_5 a_9 n_9 c_9 a_42 n_42 c_42 x_43 x_44) (L46_1 a_1 n_1 c_1 b_5 o_5 a_9 n_9 c_9 a_42 n_42 c_42 x_43 x_44) h) y0 y1 y2 h := by kernel_rfl
theorem Z46 (N : Nat) (call : CT) (y0 y1 y2 : AV) (h : H) : body Tryz.prog N call Tryz.f46 A46.an [y0, y1, y2] h = S46 N call y0 y1 y2 h := by
  have e1 : (fun (a_1 : OA) (n_1 : Nat) (c_1 : Option Nat) (b_5 o_5 : Nat) (a_9 : OA) (n_9 : Nat) (c_9 : Option Nat) (a_42 : OA) (n_42 : Nat) (c_42 : Option Nat) (x_43 x_44 : Int) h => (E46_1 N call) (T46_1 a_1 n_1 c_1 b_5 o_5 a_9 n_9 c_9 a_42 n_42 c_42 x_43 x_44) (L46_1 a_1 n_1 c_1 b_5 o_5 a_9 n_9 c_9 a_42 n_42 c_42 x_43 x_44) h) = (C46_1 N call) := by
    funext a_1 n_1 c_1 b_5 o_5 a_9 n_9 c_9 a_42 n_42 c_42 x_43 x_44 h
    exact Z46_1 N call a_1 n_1 c_1 b_5 o_5 a_9 n_9 c_9 a_42 n_42 c_42 x_43 x_44 h
  have r := R46_0 N call y0 y1 y2 h
  rw [e1] at r
  have z : S46_0 call (C46_1 N call) y0 y1 y2 h = S46 N call y0 y1 y2 h := by kernel_rfl
  exact r.trans z
theorem V46 (N : Nat) (call : CT) (vs : List AV) (h : H) : body Tryz.prog N call Tryz.f46 A46.an vs h = row3 (fun y0 y1 y2 => S46 N call y0 y1 y2 h) vs := wrap3 (by kernel_rfl) (fun y0 y1 y2 => Z46 N call y0 y1 y2 h) vs
/- (*sibyl/kinds.checker).pair -/
def A47.a0 : Ann := .items [.opL 0, .op 1, .op 2]
def A47.a1 : Ann := .items [.op 0]
def A47.a2 : Ann := .items [.op 0, .op 1, .op 2, .op 3]
def A47.a3 : Ann := .items [.op 0]
def A47.a4 : Ann := .leaf
def A47.a5 : Ann := .leaf
def A47.a6 : Ann := .two A47.a4 A47.a5
def A47.a7 : Ann := .items [.op 0, .op 1, .op 2, .opL 3, .op 4, .op 5]
def A47.a8 : Ann := .items [.op 0, .op 1, .op 2, .op 3, .op 4, .op 5, .op 6, .op 7, .op 8, .op 9]
def A47.a9 : Ann := .items [.op 0, .op 1]
def A47.a10 : Ann := .items [.op 0, .op 1, .op 2, .op 3]
def A47.a11 : Ann := .leaf
def A47.a12 : Ann := .two A47.a10 A47.a11
def A47.a13 : Ann := .leaf
def A47.a14 : Ann := .two A47.a12 A47.a13
def A47.a15 : Ann := .two A47.a9 A47.a14
def A47.a16 : Ann := .items [.op 0, .op 1, .op 2, .op 3]
def A47.a17 : Ann := .two A47.a15 A47.a16
def A47.a18 : Ann := .two A47.a8 A47.a17
def A47.a19 : Ann := .two A47.a7 A47.a18
def A47.a20 : Ann := .one A47.a19
def A47.a21 : Ann := .items [.op 0, .op 1]
def A47.a22 : Ann := .two A47.a20 A47.a21
def A47.a23 : Ann := .two A47.a6 A47.a22
def A47.a24 : Ann := .two A47.a3 A47.a23
def A47.a25 : Ann := .meet [1, 5, 8, 16, 17, 18] [5] A47.a24
def A47.a26 : Ann := .one A47.a25
def A47.a27 : Ann := .two A47.a2 A47.a26
def A47.a28 : Ann := .drawn [.op 1, .op 2, .op 3, .op 0, .op 4, .op 5]
def A47.a29 : Ann := .items [.op 0, .op 1, .op 2, .op 3, .split 46, .op 4, .op 5, .op 6, .op 7]
def A47.a30 : Ann := .items [.op 0, .op 1, .op 2, .op 3, .op 4, .op 5, .split 56, .op 6, .op 7, .op 8, .op 9, .op 10]
def A47.a31 : Ann := .leaf
def A47.a32 : Ann := .two A47.a30 A47.a31
def A47.a33 : Ann := .join [5, 8, 14, 50] [5] A47.a29 A47.a32
def A47.a34 : Ann := .items [.op 0, .op 1]
def A47.a35 : Ann := .items [.op 0, .op 1, .op 2, .op 3]
def A47.a36 : Ann := .leaf
def A47.a37 : Ann := .two A47.a35 A47.a36
def A47.a38 : Ann := .leaf
def A47.a39 : Ann := .two A47.a37 A47.a38
def A47.a40 : Ann := .two A47.a34 A47.a39
def A47.a41 : Ann := .items [.op 0, .op 1]
def A47.a42 : Ann := .leaf
def A47.a43 : Ann := .two A47.a41 A47.a42
def A47.a44 : Ann := .two A47.a40 A47.a43
def A47.a45 : Ann := .join [5, 14] [5] A47.a33 A47.a44
def A47.a46 : Ann := .two A47.a28 A47.a45
def A47.a47 : Ann := .two A47.a27 A47.a46
def A47.a48 : Ann := .two A47.a1 A47.a47
def A47.an : Ann := .two A47.a0 A47.a48
def F47_1 (N : Nat) (call : CT) (self : K3) : K3 :=
  (codeK Tryz.prog N call (c1 (c1 (c2 (c1 (c2 (c2 (bodyOf Tryz.f47))))))) A47.a24 (fun T L h => self (keepT [1, 5, 8, 16, 17, 18] T) (keepL [5] L) h) (fun i T L h => match Nat.beq i 0 with | true => (codeK Tryz.prog N call (c2 (c2 (c2 (bodyOf Tryz.f47)))) A47.a46 (resK Tryz.prog Tryz.f47.results.toList) (fun _ _ _ _ => none) (resK Tryz.prog Tryz.f47.results.toList)) T L h | false => (fun _ _ _ _ => none) i T L h) (resK Tryz.prog Tryz.f47.results.toList))
def E47_1 (N : Nat) (call : CT) : K3 := iter (F47_1 N call) N
def E47_2 (N : Nat) (call : CT) : K3 :=
  (codeK Tryz.prog N call (c2 (c2 (c2 (c2 (c2 (bodyOf Tryz.f47)))))) A47.a44 (resK Tryz.prog Tryz.f47.results.toList) (fun _ _ _ _ => none) (resK Tryz.prog Tryz.f47.results.toList))
def E47_3 (N : Nat) (call : CT) : K3 :=
  (codeK Tryz.prog N call (c2 (c1 (c2 (c2 (c2 (c2 (bodyOf Tryz.f47))))))) A47.a32 (fun T L h => (E47_2 N call) (keepT [5, 14] T) (keepL [5] L) h) (fun _ _ _ _ => none) (resK Tryz.prog Tryz.f47.results.toList))
def S47_1 (call : CT) (k1 : OA → Nat → Option Nat → Nat → Nat → OA → Nat → Option Nat → Int → Int → AV → AV → AV → AV → AV → H → R) (k3 : Nat → Nat → Bool → Bool → AV → AV → AV → AV → AV → H → R) (a_1 : OA) (n_1 : Nat) (c_1 : Option Nat) (b_8 o_8 : Nat) (a_16 : OA) (n_16 : Nat) (c_16 : Option Nat) (x_17 x_18 : Int) (l5_0 l5_1 : AV) (l5_2 l5_3 l5_4 : AV) (h : H) : R :=
  ifB (ltI x_18 x_17) (idxAddr 5 a_16 n_16 x_18 (fun b1 o2 => ldK h b1 o2 5 (fun l3 => row5 (fun x4 x5 x6 x7 x8 => bindR (call 81 [(.slice a_1 n_1 c_1), (.agg [x4, x5, x6, x7, x8])] h) (fun v9 h10 => onTuple v9 0 (fun v11 => onInt .i64 v11 (fun i12 => onTuple v9 1 (fun v13 => onInt .i64 v13 (fun i14 => onTuple v9 2 (fun v15 => onInt .i64 v15 (fun i16 => ifB (!eqI i16 (Int.ofNat 0)) (some (.tuple [(.int .i64 i14), (.int .i64 i16)], h10)) (onNat x_18 (fun j19 => guardB (Nat.blt j19 2) (stK h10 b_8 (o_8 + j19 * 1) [(.int .i64 i12)] (fun h20 => k1 a_1 n_1 c_1 b_8 o_8 a_16 n_16 c_16 x_17 (wrapF .i64 (Int.add x_18 (Int.ofNat 1))) l5_0 l5_1 l5_2 l5_3 l5_4 h20)))))))))))) l3))) (onStr l5_0 (fun s21 => bindR (call 82 [(.str s21)] h) (fun v22 h23 => onAgR v22 (fun l26 => row2 (fun x24 x25 => ldK h23 b_8 o_8 2 (fun l27 => ldK h b_8 o_8 2 (fun l28 => guardB (sameAV (.agg l27) (.agg l28)) (row2 (fun x29 x30 => onOpt (abin Tryz.prog 120 .eql (.agg [x29, x30]) (.agg [x24, x25])) (fun v31 => onBool v31 (fun e32 => onStr l5_0 (fun s33 => ifB (eqS s33 [101, 113]) (k3 b_8 o_8 e32 true l5_0 l5_1 l5_2 l5_3 l5_4 h23) (onStr l5_0 (fun s34 => k3 b_8 o_8 e32 (eqS s34 [110, 101]) l5_0 l5_1 l5_2 l5_3 l5_4 h23)))))) l27)))) l26))))
def S47_2 (call : CT) (x_14 : Bool) (l5_0 l5_1 : AV) (l5_2 l5_3 l5_4 : AV) (h : H) : R :=
  ifB (!x_14) (onInt .i64 l5_3 (fun i1 => some (.tuple [(.int .i64 i1), (.int .i64 (Int.ofNat 7))], h))) (some (.tuple [(.int .i64 (Int.ofNat 0)), (.int .i64 (Int.ofNat 0))], h))
def S47_3 (call : CT) (k2 : Bool → AV → AV → AV → AV → AV → H → R) (b_8 o_8 : Nat) (x_14 x_50 : Bool) (l5_0 l5_1 : AV) (l5_2 l5_3 l5_4 : AV) (h : H) : R :=
  ifB x_50 (onNat (Int.ofNat 0) (fun j3 => guardB (Nat.blt j3 2) (ldK h b_8 (o_8 + j3 * 1) 1 (one (fun v4 => onInt .i64 v4 (fun i5 => onNat (Int.ofNat 1) (fun j8 => guardB (Nat.blt j8 2) (ldK h b_8 (o_8 + j8 * 1) 1 (one (fun v9 => onInt .i64 v9 (fun i10 => ifB (eqI i5 i10) (onNat (Int.ofNat 0) (fun j13 => guardB (Nat.blt j13 2) (ldK h b_8 (o_8 + j13 * 1) 1 (one (fun v14 => onInt .i64 v14 (fun i15 => k2 (ltI (Int.ofNat 0) i15) l5_0 l5_1 l5_2 l5_3 l5_4 h)))))) (k2 false l5_0 l5_1 l5_2 l5_3 l5_4 h)))))))))))) (k2 x_14 l5_0 l5_1 l5_2 l5_3 l5_4 h)
def S47_0 (call : CT) (k1 : OA → Nat → Option Nat → Nat → Nat → OA → Nat → Option Nat → Int → Int → AV → AV → AV → AV → AV → H → R) (y0 y1 y2 : AV) (h : H) : R :=
  onPtr y0 (fun p1 => onSlice y1 (fun a2 n3 c4 => onAgR y2 (fun l10 => row5 (fun x5 x6 x7 x8 x9 => newK h [(.int .i64 (Int.ofNat 0)), (.int .i64 (Int.ofNat 0))] (fun b11 h12 => onSlice x9 (fun a13 n14 c15 => k1 a2 n3 c4 b11 0 a13 n14 c15 (Int.ofNat n14) (Int.ofNat 0) x5 x6 x7 x8 x9 h12))) l10)))
def C47_2 (N : Nat) (call : CT) : Bool → AV → AV → AV → AV → AV → H → R := S47_2 call
def C47_3 (N : Nat) (call : CT) : Nat → Nat → Bool → Bool → AV → AV → AV → AV → AV → H → R := S47_3 call (C47_2 N call)
def B47_1 (N : Nat) (call : CT) (ih : OA → Nat → Option Nat → Nat → Nat → OA → Nat → Option Nat → Int → Int → AV → AV → AV → AV → AV → H → R) : OA → Nat → Option Nat → Nat → Nat → OA → Nat → Option Nat → Int → Int → AV → AV → AV → AV → AV → H → R := S47_1 call ih (C47_3 N call)
def I47_1 (N : Nat) (call : CT) (n : Nat) : OA → Nat → Option Nat → Nat → Nat → OA → Nat → Option Nat → Int → Int → AV → AV → AV → AV → AV → H → R := Nat.rec (motive := fun _ => OA → Nat → Option Nat → Nat → Nat → OA → Nat → Option Nat → Int → Int → AV → AV → AV → AV → AV → H → R) (fun _ _ _ _ _ _ _ _ _ _ _ _ _ _ _ _ => none) (fun _ ih => B47_1 N call ih) n
def C47_1 (N : Nat) (call : CT) : OA → Nat → Option Nat → Nat → Nat → OA → Nat → Option Nat → Int → Int → AV → AV → AV → AV → AV → H → R := I47_1 N call N
def S47 (N : Nat) (call : CT) (y0 y1 y2 : AV) (h : H) : R := S47_0 call (C47_1 N call) y0 y1 y2 h
def T47_1 (a_1 : OA) (n_1 : Nat) (c_1 : Option Nat) (b_8 o_8 : Nat) (a_16 : OA) (n_16 : Nat) (c_16 : Option Nat) (x_17 x_18 : Int) (l5_0 l5_1 : AV) (l5_2 l5_3 l5_4 : AV) : LF := [none, (some (.v (.slice a_1 n_1 c_1))), oo, oo, oo, (some (.lptr 5 0)), none, none, (some (.v (.ptr (some (b_8, o_8))))), oo, oo, oo, oo, oo, oo, oo, (some (.v (.slice a_16 n_16 c_16))), (some (.v (.int .i64 x_17))), (some (.v (.int .i64 x_18))), oo, oo, oo, oo, oo, oo, oo, oo, oo, oo, oo, oo, oo, oo, oo, oo, oo, oo, oo, oo, oo, oo, oo, oo, oo, oo, oo, oo, oo, oo, oo, oo, oo, oo, oo, oo, oo, oo, oo, oo, oo, oo, oo, oo, oo, oo]
def L47_1 (a_1 : OA) (n_1 : Nat) (c_1 : Option Nat) (b_8 o_8 : Nat) (a_16 : OA) (n_16 : Nat) (c_16 : Option Nat) (x_17 x_18 : Int) (l5_0 l5_1 : AV) (l5_2 l5_3 l5_4 : AV) : LL := [oo, oo, oo, oo, oo, (some (.cells [l5_0, l5_1, l5_2, l5_3, l5_4])), oo, oo, oo, oo, oo, oo, oo, oo, oo, oo, oo, oo, oo, oo, oo, oo, oo, oo, oo, oo, oo, oo, oo, oo, oo, oo, oo, oo, oo, oo, oo, oo, oo, oo, oo, oo, oo, oo, oo, oo, oo, oo, oo, oo, oo, oo, oo, oo, oo, oo, oo, oo, oo, oo, oo, oo, oo, oo, oo]
def T47_2 (x_14 : Bool) (l5_0 l5_1 : AV) (l5_2 l5_3 l5_4 : AV) : LF := [oo, oo, oo, oo, oo, (some (.lptr 5 0)), oo, oo, oo, oo, oo, oo, oo, oo, (some (.v (.bool x_14))), oo, oo, oo, oo, oo, oo, oo, oo, oo, oo, oo, oo, oo, oo, oo, oo, oo, oo, oo, oo, oo, oo, oo, oo, oo, oo, oo, oo, oo, oo, oo, oo, oo, oo, oo, oo, oo, oo, oo, oo, oo, oo, oo, oo, oo, oo, oo, oo, oo, oo]
def L47_2 (x_14 : Bool) (l5_0 l5_1 : AV) (l5_2 l5_3 l5_4 : AV) : LL := [oo, oo, oo, oo, oo, (some (.cells [l5_0, l5_1, l5_2, l5_3, l5_4])), oo, oo, oo, oo, oo, oo, oo, oo, oo, oo, oo, oo, oo, oo, oo, oo, oo, oo, oo, oo, oo, oo, oo, oo, oo, oo, oo, oo, oo, oo, oo, oo, oo, oo, oo, oo, oo, oo, oo, oo, oo, oo, oo, oo, oo, oo, oo, oo, oo, oo, oo, oo, oo, oo, oo, oo, oo, oo, oo]
def T47_3 (b_8 o_8 : Nat) (x_14 x_50 : Bool) (l5_0 l5_1 : AV) (l5_2 l5_3 l5_4 : AV) : LF := [oo, oo, oo, oo, oo, (some (.lptr 5 0)), none, none, (some (.v (.ptr (some (b_8, o_8))))), oo, oo, oo, oo, oo, (some (.v (.bool x_14))), oo, oo, oo, oo, oo, oo, oo, oo, oo, oo, oo, oo, oo, oo, oo, oo, oo, oo, oo, oo, oo, oo, oo, oo, oo, oo, oo, oo, oo, oo, oo, oo, oo, oo, oo, (some (.v (.bool x_50))), oo, oo, oo, oo, oo, oo, oo, oo, oo, oo, oo, oo, oo, oo]
def L47_3 (b_8 o_8 : Nat) (x_14 x_50 : Bool) (l5_0 l5_1 : AV) (l5_2 l5_3 l5_4 : AV) : LL := [oo, oo, oo, oo, oo, (some (.cells [l5_0, l5_1, l5_2, l5_3, l5_4])), oo, oo, oo, oo, oo, oo, oo, oo, oo, oo, oo, oo, oo, oo, oo, oo, oo, oo, oo, oo, oo, oo, oo, oo, oo, oo, oo, oo, oo, oo, oo, oo, oo, oo, oo, oo, oo, oo, oo, oo, oo, oo, oo, oo, oo, oo, oo, oo, oo, oo, oo, oo, oo, oo, oo, oo, oo, oo, oo]
theorem R47_2 (N : Nat) (call : CT) (x_14 : Bool) (l5_0 l5_1 : AV) (l5_2 l5_3 l5_4 : AV) (h : H) : E47_2 N call (T47_2 x_14 l5_0 l5_1 l5_2 l5_3 l5_4) (L47_2 x_14 l5_0 l5_1 l5_2 l5_3 l5_4) h = S47_2 call x_14 l5_0 l5_1 l5_2 l5_3 l5_4 h := by kernel_rfl
theorem Z47_2 (N : Nat) (call : CT) (x_14 : Bool) (l5_0 l5_1 : AV) (l5_2 l5_3 l5_4 : AV) (h : H) : E47_2 N call (T47_2 x_14 l5_0 l5_1 l5_2 l5_3 l5_4) (L47_2 x_14 l5_0 l5_1 l5_2 l5_3 l5_4) h = C47_2 N call x_14 l5_0 l5_1 l5_2 l5_3 l5_4 h := by
  have r := R47_2 N call x_14 l5_0 l5_1 l5_2 l5_3 l5_4 h
  have z : S47_2 call x_14 l5_0 l5_1 l5_2 l5_3 l5_4 h = C47_2 N call x_14 l5_0 l5_1 l5_2 l5_3 l5_4 h := by kernel_rfl
  exact r.trans z
theorem R47_3 (N : Nat) (call : CT) (b_8 o_8 : Nat) (x_14 x_50 : Bool) (l5_0 l5_1 : AV) (l5_2 l5_3 l5_4 : AV) (h : H) : E47_3 N call (T47_3 b_8 o_8 x_14 x_50 l5_0 l5_1 l5_2 l5_3 l5_4) (L47_3 b_8 o_8 x_14 x_50 l5_0 l5_1 l5_2 l5_3 l5_4) h = S47_3 call (fun (x_14 : Bool) (l5_0 l5_1 : AV) (l5_2 l5_3 l5_4 : AV) h => (E47_2 N call) (T47_2 x_14 l5_0 l5_1 l5_2 l5_3 l5_4) (L47_2 x_14 l5_0 l5_1 l5_2 l5_3 l5_4) h) b_8 o_8 x_14 x_50 l5_0 l5_1 l5_2 l5_3 l5_4 h := by kernel_rfl
theorem Z47_3 (N : Nat) (call : CT) (b_8 o_8 : Nat) (x_14 x_50 : Bool) (l5_0 l5_1 : AV) (l5_2 l5_3 l5_4 : AV) (h : H) : E47_3 N call (T47_3 b_8 o_8 x_14 x_50 l5_0 l5_1 l5_2 l5_3 l5_4) (L47_3 b_8 o_8 x_14 x_50 l5_0 l5_1 l5_2 l5_3 l5_4) h = C47_3 N call b_8 o_8 x_14 x_50 l5_0 l5_1 l5_2 l5_3 l5_4 h := by
  have e2 : (fun (x_14 : Bool) (l5_0 l5_1 : AV) (l5_2 l5_3 l5_4 : AV) h => (E47_2 N call) (T47_2 x_14 l5_0 l5_1 l5_2 l5_3 l5_4) (L47_2 x_14 l5_0 l5_1 l5_2 l5_3 l5_4) h) = (C47_2 N call) := by
    funext x_14 l5_0 l5_1 l5_2 l5_3 l5_4 h
    exact Z47_2 N call x_14 l5_0 l5_1 l5_2 l5_3 l5_4 h
  have r := R47_3 N call b_8 o_8 x_14 x_50 l5_0 l5_1 l5_2 l5_3 l5_4 h
  rw [e2] at r
  have z : S47_3 call (C47_2 N call) b_8 o_8 x_14 x_50 l5_0 l5_1 l5_2 l5_3 l5_4 h = C47_3 N call b_8 o_8 x_14 x_50 l5_0 l5_1 l5_2 l5_3 l5_4 h := by kernel_rfl
  exact r.trans z
theorem R47_1 (N : Nat) (call : CT) (self : K3) (a_1 : OA) (n_1 : Nat) (c_1 : Option Nat) (b_8 o_8 : Nat) (a_16 : OA) (n_16 : Nat) (c_16 : Option Nat) (x_17 x_18 : Int) (l5_0 l5_1 : AV) (l5_2 l5_3 l5_4 : AV) (h : H) : F47_1 N call self (T47_1 a_1 n_1 c_1 b_8 o_8 a_16 n_16 c_16 x_17 x_18 l5_0 l5_1 l5_2 l5_3 l5_4) (L47_1 a_1 n_1 c_1 b_8 o_8 a_16 n_16 c_16 x_17 x_18 l5_0 l5_1 l5_2 l5_3 l5_4) h = S47_1 call (fun (a_1 : OA) (n_1 : Nat) (c_1 : Option Nat) (b_8 o_8 : Nat) (a_16 : OA) (n_16 : Nat) (c_16 : Option Nat) (x_17 x_18 : Int) (l5_0 l5_1 : AV) (l5_2 l5_3 l5_4 : AV) h => self (T47_1 a_1 n_1 c_1 b_8 o_8 a_16 n_16 c_16 x_17 x_18 l5_0 l5_1 l5_2 l5_3 l5_4) (L47_1 a_1 n_1 c_1 b_8 o_8 a_16 n_16 c_16 x_17 x_18 l5_0 l5_1 l5_2 l5_3 l5_4) h) (fun (b_8 o_8 : Nat) (x_14 x_50 : Bool) (l5_0 l5_1 : AV) (l5_2 l5_3 l5_4 : AV) h => (E47_3 N call) (T47_3 b_8 o_8 x_14 x_50 l5_0 l5_1 l5_2 l5_3 l5_4) (L47_3 b_8 o_8 x_14 x_50 l5_0 l5_1 l5_2 l5_3 l5_4) h) a_1 n_1 c_1 b_8 o_8 a_16 n_16 c_16 x_17 x_18 l5_0 l5_1 l5_2 l5_3 l5_4 h := by kernel_rfl
theorem Q47_1 (N : Nat) (call : CT) (n : Nat) : ∀ (a_1 : OA) (n_1 : Nat) (c_1 : Option Nat) (b_8 o_8 : Nat) (a_16 : OA) (n_16 : Nat) (c_16 : Option Nat) (x_17 x_18 : Int) (l5_0 l5_1 : AV) (l5_2 l5_3 l5_4 : AV) (h : H), (iter (F47_1 N call) n) (T47_1 a_1 n_1 c_1 b_8 o_8 a_16 n_16 c_16 x_17 x_18 l5_0 l5_1 l5_2 l5_3 l5_4) (L47_1 a_1 n_1 c_1 b_8 o_8 a_16 n_16 c_16 x_17 x_18 l5_0 l5_1 l5_2 l5_3 l5_4) h = I47_1 N call n a_1 n_1 c_1 b_8 o_8 a_16 n_16 c_16 x_17 x_18 l5_0 l5_1 l5_2 l5_3 l5_4 h := by
  induction n with
  | zero => intros; exact (iter_zero _ _ _ _).trans (by kernel_rfl)
  | succ n ih =>
    intro a_1 n_1 c_1 b_8 o_8 a_16 n_16 c_16 x_17 x_18 l5_0 l5_1 l5_2 l5_3 l5_4 h
    have e0 : (fun (a_1 : OA) (n_1 : Nat) (c_1 : Option Nat) (b_8 o_8 : Nat) (a_16 : OA) (n_16 : Nat) (c_16 : Option Nat) (x_17 x_18 : Int) (l5_0 l5_1 : AV) (l5_2 l5_3 l5_4 : AV) h => (iter (F47_1 N call) n) (T47_1 a_1 n_1 c_1 b_8 o_8 a_16 n_16 c_16 x_17 x_18 l5_0 l5_1 l5_2 l5_3 l5_4) (L47_1 a_1 n_1 c_1 b_8 o_8 a_16 n_16 c_16 x_17 x_18 l5_0 l5_1 l5_2 l5_3 l5_4) h) = (I47_1 N call n) := by funext a_1 n_1 c_1 b_8 o_8 a_16 n_16 c_16 x_17 x_18 l5_0 l5_1 l5_2 l5_3 l5_4 h; exact ih a_1 n_1 c_1 b_8 o_8 a_16 n_16 c_16 x_17 x_18 l5_0 l5_1 l5_2 l5_3 l5_4 h
    have e3 : (fun (b_8 o_8 : Nat) (x_14 x_50 : Bool) (l5_0 l5_1 : AV) (l5_2 l5_3 l5_4 : AV) h => (E47_3 N call) (T47_3 b_8 o_8 x_14 x_50 l5_0 l5_1 l5_2 l5_3 l5_4) (L47_3 b_8 o_8 x_14 x_50 l5_0 l5_1 l5_2 l5_3 l5_4) h) = (C47_3 N call) := by
      funext b_8 o_8 x_14 x_50 l5_0 l5_1 l5_2 l5_3 l5_4 h
      have q := Z47_3 N call b_8 o_8 x_14 x_50 l5_0 l5_1 l5_2 l5_3 l5_4 h
      exact q
    have r := R47_1 N call (iter (F47_1 N call) n) a_1 n_1 c_1 b_8 o_8 a_16 n_16 c_16 x_17 x_18 l5_0 l5_1 l5_2 l5_3 l5_4 h
    rw [e0, e3] at r
    have g := iter_succ (F47_1 N call) n (T47_1 a_1 n_1 c_1 b_8 o_8 a_16 n_16 c_16 x_17 x_18 l5_0 l5_1 l5_2 l5_3 l5_4) (L47_1 a_1 n_1 c_1 b_8 o_8 a_16 n_16 c_16 x_17 x_18 l5_0 l5_1 l5_2 l5_3 l5_4) h
    have z : S47_1 call (I47_1 N call n) (C47_3 N call) a_1 n_1 c_1 b_8 o_8 a_16 n_16 c_16 x_17 x_18 l5_0 l5_1 l5_2 l5_3 l5_4 h = I47_1 N call (n + 1) a_1 n_1 c_1 b_8 o_8 a_16 n_16 c_16 x_17 x_18 l5_0 l5_1 l5_2 l5_3 l5_4 h := by kernel_rfl
    exact g.trans (r.trans z)
theorem Z47_1 (N : Nat) (call : CT) (a_1 : OA) (n_1 : Nat) (c_1 : Option Nat) (b_8 o_8 : Nat) (a_16 : OA) (n_16 : Nat) (c_16 : Option Nat) (x_17 x_18 : Int) (l5_0 l5_1 : AV) (l5_2 l5_3 l5_4 : AV) (h : H) : (E47_1 N call) (T47_1 a_1 n_1 c_1 b_8 o_8 a_16 n_16 c_16 x_17 x_18 l5_0 l5_1 l5_2 l5_3 l5_4) (L47_1 a_1 n_1 c_1 b_8 o_8 a_16 n_16 c_16 x_17 x_18 l5_0 l5_1 l5_2 l5_3 l5_4) h = C47_1 N call a_1 n_1 c_1 b_8 o_8 a_16 n_16 c_16 x_17 x_18 l5_0 l5_1 l5_2 l5_3 l5_4 h := by
  have g : (E47_1 N call) (T47_1 a_1 n_1 c_1 b_8 o_8 a_16 n_16 c_16 x_17 x_18 l5_0 l5_1 l5_2 l5_3 l5_4) (L47_1 a_1 n_1 c_1 b_8 o_8 a_16 n_16 c_16 x_17 x_18 l5_0 l5_1 l5_2 l5_3 l5_4) h = iter (F47_1 N call) N (T47_1 a_1 n_1 c_1 b_8 o_8 a_16 n_16 c_16 x_17 x_18 l5_0 l5_1 l5_2 l5_3 l5_4) (L47_1 a_1 n_1 c_1 b_8 o_8 a_16 n_16 c_16 x_17 x_18 l5_0 l5_1 l5_2 l5_3 l5_4) h := by kernel_rfl
  have z : I47_1 N call N a_1 n_1 c_1 b_8 o_8 a_16 n_16 c_16 x_17 x_18 l5_0 l5_1 l5_2 l5_3 l5_4 h = C47_1 N call a_1 n_1 c_1 b_8 o_8 a_16 n_16 c_16 x_17 x_18 l5_0 l5_1 l5_2 l5_3 l5_4 h := by kernel_rfl
  exact g.trans ((Q47_1 N call N a_1 n_1 c_1 b_8 o_8 a_16 n_16 c_16 x_17 x_18 l5_0 l5_1 l5_2 l5_3 l5_4 h).trans z)
theorem R47_0 (N : Nat) (call : CT) (y0 y1 y2 : AV) (h : H) : body Tryz.prog N call Tryz.f47 A47.an [y0, y1, y2] h = S47_0 call (fun (a_1 : OA) (n_1 : Nat) (c_1 : Option Nat) (b_8 o_8 : Nat) (a_16 : OA) (n_16 : Nat) (c_16 : Option Nat) (x_17 x_18 : Int) (l5_0 l5_1 : AV) (l5_2 l5_3 l5_4 : AV) h => (E47_1 N call) (T47_1 a_1 n_1 c_1 b_8 o_8 a_16 n_16 c_16 x_17 x_18 l5_0 l5_1 l5_2 l5_3 l5_4) (L47_1 a_1 n_1 c_1 b_8 o_8 a_16 n_16 c_16 x_17 x_18 l5_0 l5_1 l5_2 l5_3 l5_4) h) y0 y1 y2 h := by kernel_rfl
theorem Z47 (N : Nat) (call : CT) (y0 y1 y2 : AV) (h : H) : body Tryz.prog N call Tryz.f47 A47.an [y0, y1, y2] h = S47 N call y0 y1 y2 h := by
  have e1 : (fun (a_1 : OA) (n_1 : Nat) (c_1 : Option Nat) (b_8 o_8 : Nat) (a_16 : OA) (n_16 : Nat) (c_16 : Option Nat) (x_17 x_18 : Int) (l5_0 l5_1 : AV) (l5_2 l5_3 l5_4 : AV) h => (E47_1 N call) (T47_1 a_1 n_1 c_1 b_8 o_8 a_16 n_16 c_16 x_17 x_18 l5_0 l5_1 l5_2 l5_3 l5_4) (L47_1 a_1 n_1 c_1 b_8 o_8 a_16 n_16 c_16 x_17 x_18 l5_0 l5_1 l5_2 l5_3 l5_4) h) = (C47_1 N call) := by
    funext a_1 n_1 c_1 b_8 o_8 a_16 n_16 c_16 x_17 x_18 l5_0 l5_1 l5_2 l5_3 l5_4 h
    exact Z47_1 N call a_1 n_1 c_1 b_8 o_8 a_16 n_16 c_16 x_17 x_18 l5_0 l5_1 l5_2 l5_3 l5_4 h
  have r := R47_0 N call y0 y1 y2 h
  rw [e1] at r
  have z : S47_0 call (C47_1 N call) y0 y1 y2 h = S47 N call y0 y1 y2 h := by kernel_rfl
  exact r.trans z
theorem V47 (N : Nat) (call : CT) (vs : List AV) (h : H) : body Tryz.prog N call Tryz.f47 A47.an vs h = row3 (fun y0 y1 y2 => S47 N call y0 y1 y2 h) vs := wrap3 (by kernel_rfl) (fun y0 y1 y2 => Z47 N call y0 y1 y2 h) vs
/- slices.Clone[[]sibyl/api.Decl,sibyl/api.Decl] -/
def A48.a0 : Ann := .items [.op 0]
def A48.a1 : Ann := .items [.op 0, .op 1]
def A48.a2 : Ann := .items [.op 0]
def A48.a3 : Ann := .leaf
def A48.a4 : Ann := .two A48.a2 A48.a3
def A48.a5 : Ann := .leaf
def A48.a6 : Ann := .two A48.a4 A48.a5
def A48.a7 : Ann := .two A48.a1 A48.a6
def A48.a8 : Ann := .items [.op 0, .op 1, .op 2, .op 3]
def A48.a9 : Ann := .leaf
def A48.a10 : Ann := .two A48.a8 A48.a9
def A48.a11 : Ann := .two A48.a7 A48.a10
def A48.an : Ann := .two A48.a0 A48.a11
def S48_0 (call : CT) (y0 : AV) (h : H) : R :=
  onSlice y0 (fun a1 n2 c3 => ifB (a1.isNone) (some ((.slice none 0 (some 0)), h)) (newK h [] (fun b4 h5 => srcK h5 3 a1 n2 (fun l6 => appL h5 3 (some (b4, 0)) 0 (some 0) n2 l6 (fun a7 n8 c9 h10 => some ((.slice a7 n8 c9), h10))))))
def S48 (N : Nat) (call : CT) (y0 : AV) (h : H) : R := S48_0 call y0 h
theorem R48_0 (N : Nat) (call : CT) (y0 : AV) (h : H) : body Tryz.prog N call Tryz.f48 A48.an [y0] h = S48_0 call y0 h := by kernel_rfl
theorem Z48 (N : Nat) (call : CT) (y0 : AV) (h : H) : body Tryz.prog N call Tryz.f48 A48.an [y0] h = S48 N call y0 h := by
  have r := R48_0 N call y0 h
  have z : S48_0 call y0 h = S48 N call y0 h := by kernel_rfl
  exact r.trans z
theorem V48 (N : Nat) (call : CT) (vs : List AV) (h : H) : body Tryz.prog N call Tryz.f48 A48.an vs h = row1 (fun y0 => S48 N call y0 h) vs := wrap1 (by kernel_rfl) (fun y0 => Z48 N call y0 h) vs
/- (*sibyl/macro.expander).call -/
def A49.a0 : Ann := .items [.op 0, .opL 1]
def A49.a1 : Ann := .items [.op 0, .op 1, .op 2, .op 3, .op 4, .op 5, .op 6]
def A49.a2 : Ann := .items [.op 0, .op 1, .op 2, .op 3, .op 4, .op 5, .op 6, .opL 7, .op 8]
def A49.a3 : Ann := .items [.op 0]
def A49.a4 : Ann := .items [.op 0, .op 1, .op 2, .op 3]
def A49.a5 : Ann := .items [.op 0]
def A49.a6 : Ann := .leaf
def A49.a7 : Ann := .leaf
def A49.a8 : Ann := .two A49.a6 A49.a7
def A49.a9 : Ann := .items [.op 0, .op 1, .opL 2, .op 3]
def A49.a10 : Ann := .items [.op 0, .op 1, .op 2, .opL 3, .op 4, .op 5]
def A49.a11 : Ann := .two A49.a9 A49.a10
def A49.a12 : Ann := .one A49.a11
def A49.a13 : Ann := .items [.op 0, .op 1]
def A49.a14 : Ann := .two A49.a12 A49.a13
def A49.a15 : Ann := .two A49.a8 A49.a14
def A49.a16 : Ann := .two A49.a5 A49.a15
def A49.a17 : Ann := .meet [3, 4, 6, 7, 24, 25, 26] [4, 6] A49.a16
def A49.a18 : Ann := .one A49.a17
def A49.a19 : Ann := .two A49.a4 A49.a18
def A49.a20 : Ann := .items [.op 0, .op 1, .op 2, .op 3, .op 4, .op 5, .op 6]
def A49.a21 : Ann := .leaf
def A49.a22 : Ann := .two A49.a20 A49.a21
def A49.a23 : Ann := .two A49.a19 A49.a22
def A49.a24 : Ann := .two A49.a3 A49.a23
def A49.a25 : Ann := .two A49.a2 A49.a24
def A49.a26 : Ann := .two A49.a1 A49.a25
def A49.an : Ann := .two A49.a0 A49.a26
def F49_1 (N : Nat) (call : CT) (self : K3) : K3 :=
  (codeK Tryz.prog N call (c1 (c1 (c2 (c1 (c2 (c2 (c2 (c2 (bodyOf Tryz.f49))))))))) A49.a16 (fun T L h => self (keepT [3, 4, 6, 7, 24, 25, 26] T) (keepL [4, 6] L) h) (fun i T L h => match Nat.beq i 0 with | true => (codeK Tryz.prog N call (c2 (c2 (c2 (c2 (c2 (bodyOf Tryz.f49)))))) A49.a22 (resK Tryz.prog Tryz.f49.results.toList) (fun _ _ _ _ => none) (resK Tryz.prog Tryz.f49.results.toList)) T L h | false => (fun _ _ _ _ => none) i T L h) (resK Tryz.prog Tryz.f49.results.toList))
def E49_1 (N : Nat) (call : CT) : K3 := iter (F49_1 N call) N
def S49_1 (call : CT) (k1 : Nat → Nat → OA → Nat → Option Nat → OA → Nat → Option Nat → Int → Int → AV → AV → AV → AV → AV → AV → AV → AV → AV → AV → AV → AV → AV → H → R) (b_3 o_3 : Nat) (a_7 : OA) (n_7 : Nat) (c_7 : Option Nat) (a_24 : OA) (n_24 : Nat) (c_24 : Option Nat) (x_25 x_26 : Int) (l4_0 l4_1 : AV) (l4_2 l4_3 : AV) (l4_4 l6_0 : AV) (l6_1 l6_2 : AV) (l6_3 l6_4 : AV) (l6_5 l6_6 l6_7 : AV) (h : H) : R :=
  ifB (ltI x_26 x_25) (idxAddr 3 a_24 n_24 x_26 (fun b1 o2 => ldK h b1 o2 3 (fun l3 => row3 (fun x4 x5 x6 => onStr x4 (fun s7 => appL h 1 a_7 n_7 c_7 1 [(.str s7)] (fun a8 n9 c10 h11 => k1 b_3 o_3 a8 n9 c10 a_24 n_24 c_24 x_25 (wrapF .i64 (Int.add x_26 (Int.ofNat 1))) l4_0 l4_1 l4_2 l4_3 l4_4 l6_0 l6_1 l6_2 l6_3 l6_4 l6_5 l6_6 l6_7 h11))) l3))) (ldK h b_3 (o_3 + 4) 1 (one (fun v12 => onSlice v12 (fun a13 n14 c15 => bindR (call 84 [(.agg [l6_2, l6_3, l6_4, l6_5, l6_6]), (.slice a_7 n_7 c_7), (.slice a13 n14 c15)] h) (fun v16 h17 => onAgR v16 (fun l23 => row5 (fun x18 x19 x20 x21 x22 => some ((.agg [x18, x19, x20, x21, x22]), h17)) l23))))))
def S49_0 (call : CT) (k1 : Nat → Nat → OA → Nat → Option Nat → OA → Nat → Option Nat → Int → Int → AV → AV → AV → AV → AV → AV → AV → AV → AV → AV → AV → AV → AV → H → R) (y0 y1 : AV) (h : H) : R :=
  onPtr y0 (fun p1 => onAgR y1 (fun l7 => row5 (fun x2 x3 x4 x5 x6 => newK h [x2, x3, x4, x5, x6] (fun b8 h9 => onSome p1 (fun b10 o11 => ldK h9 b10 (o11 + 0) 1 (one (fun v12 => onSlice v12 (fun a13 n14 c15 => bindR (call 75 [(.slice a13 n14 c15), (.func 83 [] [(.ptr (some (b8, 0)))])] h9) (fun v16 h17 => onInt .i64 v16 (fun i18 => onSome p1 (fun b19 o20 => ldK h17 b19 (o20 + 0) 1 (one (fun v21 => onSlice v21 (fun a22 n23 c24 => idxAddr 8 a22 n23 i18 (fun b25 o26 => ldK h17 b25 o26 8 (fun l27 => row8 (fun x28 x29 x30 x31 x32 x33 x34 x35 => onSlice x29 (fun a36 n37 c38 => k1 b8 0 none 0 (some 0) a36 n37 c38 (Int.ofNat n37) (Int.ofNat 0) (.str []) (.str []) (.int .i64 (Int.ofNat 0)) (.int .i64 (Int.ofNat 0)) (.slice none 0 (some 0)) x28 x29 x30 x31 x32 x33 x34 x35 h17)) l27)))))))))))))) l7))
def B49_1 (N : Nat) (call : CT) (ih : Nat → Nat → OA → Nat → Option Nat → OA → Nat → Option Nat → Int → Int → AV → AV → AV → AV → AV → AV → AV → AV → AV → AV → AV → AV → AV → H → R) : Nat → Nat → OA → Nat → Option Nat → OA → Nat → Option Nat → Int → Int → AV → AV → AV → AV → AV → AV → AV → AV → AV → AV → AV → AV → AV → H → R := S49_1 call ih
def I49_1 (N : Nat) (call : CT) (n : Nat) : Nat → Nat → OA → Nat → Option Nat → OA → Nat → Option Nat → Int → Int → AV → AV → AV → AV → AV → AV → AV → AV → AV → AV → AV → AV → AV → H → R := Nat.rec (motive := fun _ => Nat → Nat → OA → Nat → Option Nat → OA → Nat → Option Nat → Int → Int → AV → AV → AV → AV → AV → AV → AV → AV → AV → AV → AV → AV → AV → H → R) (fun _ _ _ _ _ _ _ _ _ _ _ _ _ _ _ _ _ _ _ _ _ _ _ _ => none) (fun _ ih => B49_1 N call ih) n
def C49_1 (N : Nat) (call : CT) : Nat → Nat → OA → Nat → Option Nat → OA → Nat → Option Nat → Int → Int → AV → AV → AV → AV → AV → AV → AV → AV → AV → AV → AV → AV → AV → H → R := I49_1 N call N
def S49 (N : Nat) (call : CT) (y0 y1 : AV) (h : H) : R := S49_0 call (C49_1 N call) y0 y1 h
def T49_1 (b_3 o_3 : Nat) (a_7 : OA) (n_7 : Nat) (c_7 : Option Nat) (a_24 : OA) (n_24 : Nat) (c_24 : Option Nat) (x_25 x_26 : Int) (l4_0 l4_1 : AV) (l4_2 l4_3 : AV) (l4_4 l6_0 : AV) (l6_1 l6_2 : AV) (l6_3 l6_4 : AV) (l6_5 l6_6 l6_7 : AV) : LF := [oo, oo, oo, (some (.v (.ptr (some (b_3, o_3))))), (some (.lptr 4 0)), none, (some (.lptr 6 0)), (some (.v (.slice a_7 n_7 c_7))), oo, oo, oo, oo, oo, oo, oo, oo, oo, oo, oo, oo, oo, oo, oo, oo, (some (.v (.slice a_24 n_24 c_24))), (some (.v (.int .i64 x_25))), (some (.v (.int .i64 x_26))), oo, oo, oo, oo, oo, oo, oo, oo, oo, oo, oo, oo, oo, oo, oo]
def L49_1 (b_3 o_3 : Nat) (a_7 : OA) (n_7 : Nat) (c_7 : Option Nat) (a_24 : OA) (n_24 : Nat) (c_24 : Option Nat) (x_25 x_26 : Int) (l4_0 l4_1 : AV) (l4_2 l4_3 : AV) (l4_4 l6_0 : AV) (l6_1 l6_2 : AV) (l6_3 l6_4 : AV) (l6_5 l6_6 l6_7 : AV) : LL := [oo, oo, oo, oo, (some (.cells [l4_0, l4_1, l4_2, l4_3, l4_4])), none, (some (.cells [l6_0, l6_1, l6_2, l6_3, l6_4, l6_5, l6_6, l6_7])), oo, oo, oo, oo, oo, oo, oo, oo, oo, oo, oo, oo, oo, oo, oo, oo, oo, oo, oo, oo, oo, oo, oo, oo, oo, oo, oo, oo, oo, oo, oo, oo, oo, oo, oo]
theorem R49_1 (N : Nat) (call : CT) (self : K3) (b_3 o_3 : Nat) (a_7 : OA) (n_7 : Nat) (c_7 : Option Nat) (a_24 : OA) (n_24 : Nat) (c_24 : Option Nat) (x_25 x_26 : Int) (l4_0 l4_1 : AV) (l4_2 l4_3 : AV) (l4_4 l6_0 : AV) (l6_1 l6_2 : AV) (l6_3 l6_4 : AV) (l6_5 l6_6 l6_7 : AV) (h : H) : F49_1 N call self (T49_1 b_3 o_3 a_7 n_7 c_7 a_24 n_24 c_24 x_25 x_26 l4_0 l4_1 l4_2 l4_3 l4_4 l6_0 l6_1 l6_2 l6_3 l6_4 l6_5 l6_6 l6_7) (L49_1 b_3 o_3 a_7 n_7 c_7 a_24 n_24 c_24 x_25 x_26 l4_0 l4_1 l4_2 l4_3 l4_4 l6_0 l6_1 l6_2 l6_3 l6_4 l6_5 l6_6 l6_7) h = S49_1 call (fun (b_3 o_3 : Nat) (a_7 : OA) (n_7 : Nat) (c_7 : Option Nat) (a_24 : OA) (n_24 : Nat) (c_24 : Option Nat) (x_25 x_26 : Int) (l4_0 l4_1 : AV) (l4_2 l4_3 : AV) (l4_4 l6_0 : AV) (l6_1 l6_2 : AV) (l6_3 l6_4 : AV) (l6_5 l6_6 l6_7 : AV) h => self (T49_1 b_3 o_3 a_7 n_7 c_7 a_24 n_24 c_24 x_25 x_26 l4_0 l4_1 l4_2 l4_3 l4_4 l6_0 l6_1 l6_2 l6_3 l6_4 l6_5 l6_6 l6_7) (L49_1 b_3 o_3 a_7 n_7 c_7 a_24 n_24 c_24 x_25 x_26 l4_0 l4_1 l4_2 l4_3 l4_4 l6_0 l6_1 l6_2 l6_3 l6_4 l6_5 l6_6 l6_7) h) b_3 o_3 a_7 n_7 c_7 a_24 n_24 c_24 x_25 x_26 l4_0 l4_1 l4_2 l4_3 l4_4 l6_0 l6_1 l6_2 l6_3 l6_4 l6_5 l6_6 l6_7 h := by kernel_rfl
theorem Q49_1 (N : Nat) (call : CT) (n : Nat) : ∀ (b_3 o_3 : Nat) (a_7 : OA) (n_7 : Nat) (c_7 : Option Nat) (a_24 : OA) (n_24 : Nat) (c_24 : Option Nat) (x_25 x_26 : Int) (l4_0 l4_1 : AV) (l4_2 l4_3 : AV) (l4_4 l6_0 : AV) (l6_1 l6_2 : AV) (l6_3 l6_4 : AV) (l6_5 l6_6 l6_7 : AV) (h : H), (iter (F49_1 N call) n) (T49_1 b_3 o_3 a_7 n_7 c_7 a_24 n_24 c_24 x_25 x_26 l4_0 l4_1 l4_2 l4_3 l4_4 l6_0 l6_1 l6_2 l6_3 l6_4 l6_5 l6_6 l6_7) (L49_1 b_3 o_3 a_7 n_7 c_7 a_24 n_24 c_24 x_25 x_26 l4_0 l4_1 l4_2 l4_3 l4_4 l6_0 l6_1 l6_2 l6_3 l6_4 l6_5 l6_6 l6_7) h = I49_1 N call n b_3 o_3 a_7 n_7 c_7 a_24 n_24 c_24 x_25 x_26 l4_0 l4_1 l4_2 l4_3 l4_4 l6_0 l6_1 l6_2 l6_3 l6_4 l6_5 l6_6 l6_7 h := by
  induction n with
  | zero => intros; exact (iter_zero _ _ _ _).trans (by kernel_rfl)
  | succ n ih =>
    intro b_3 o_3 a_7 n_7 c_7 a_24 n_24 c_24 x_25 x_26 l4_0 l4_1 l4_2 l4_3 l4_4 l6_0 l6_1 l6_2 l6_3 l6_4 l6_5 l6_6 l6_7 h
    have e0 : (fun (b_3 o_3 : Nat) (a_7 : OA) (n_7 : Nat) (c_7 : Option Nat) (a_24 : OA) (n_24 : Nat) (c_24 : Option Nat) (x_25 x_26 : Int) (l4_0 l4_1 : AV) (l4_2 l4_3 : AV) (l4_4 l6_0 : AV) (l6_1 l6_2 : AV) (l6_3 l6_4 : AV) (l6_5 l6_6 l6_7 : AV) h => (iter (F49_1 N call) n) (T49_1 b_3 o_3 a_7 n_7 c_7 a_24 n_24 c_24 x_25 x_26 l4_0 l4_1 l4_2 l4_3 l4_4 l6_0 l6_1 l6_2 l6_3 l6_4 l6_5 l6_6 l6_7) (L49_1 b_3 o_3 a_7 n_7 c_7 a_24 n_24 c_24 x_25 x_26 l4_0 l4_1 l4_2 l4_3 l4_4 l6_0 l6_1 l6_2 l6_3 l6_4 l6_5 l6_6 l6_7) h) = (I49_1 N call n) := by funext b_3 o_3 a_7 n_7 c_7 a_24 n_24 c_24 x_25 x_26 l4_0 l4_1 l4_2 l4_3 l4_4 l6_0 l6_1 l6_2 l6_3 l6_4 l6_5 l6_6 l6_7 h; exact ih b_3 o_3 a_7 n_7 c_7 a_24 n_24 c_24 x_25 x_26 l4_0 l4_1 l4_2 l4_3 l4_4 l6_0 l6_1 l6_2 l6_3 l6_4 l6_5 l6_6 l6_7 h
    have r := R49_1 N call (iter (F49_1 N call) n) b_3 o_3 a_7 n_7 c_7 a_24 n_24 c_24 x_25 x_26 l4_0 l4_1 l4_2 l4_3 l4_4 l6_0 l6_1 l6_2 l6_3 l6_4 l6_5 l6_6 l6_7 h
    rw [e0] at r
    have g := iter_succ (F49_1 N call) n (T49_1 b_3 o_3 a_7 n_7 c_7 a_24 n_24 c_24 x_25 x_26 l4_0 l4_1 l4_2 l4_3 l4_4 l6_0 l6_1 l6_2 l6_3 l6_4 l6_5 l6_6 l6_7) (L49_1 b_3 o_3 a_7 n_7 c_7 a_24 n_24 c_24 x_25 x_26 l4_0 l4_1 l4_2 l4_3 l4_4 l6_0 l6_1 l6_2 l6_3 l6_4 l6_5 l6_6 l6_7) h
    have z : S49_1 call (I49_1 N call n) b_3 o_3 a_7 n_7 c_7 a_24 n_24 c_24 x_25 x_26 l4_0 l4_1 l4_2 l4_3 l4_4 l6_0 l6_1 l6_2 l6_3 l6_4 l6_5 l6_6 l6_7 h = I49_1 N call (n + 1) b_3 o_3 a_7 n_7 c_7 a_24 n_24 c_24 x_25 x_26 l4_0 l4_1 l4_2 l4_3 l4_4 l6_0 l6_1 l6_2 l6_3 l6_4 l6_5 l6_6 l6_7 h := by kernel_rfl
    exact g.trans (r.trans z)
theorem Z49_1 (N : Nat) (call : CT) (b_3 o_3 : Nat) (a_7 : OA) (n_7 : Nat) (c_7 : Option Nat) (a_24 : OA) (n_24 : Nat) (c_24 : Option Nat) (x_25 x_26 : Int) (l4_0 l4_1 : AV) (l4_2 l4_3 : AV) (l4_4 l6_0 : AV) (l6_1 l6_2 : AV) (l6_3 l6_4 : AV) (l6_5 l6_6 l6_7 : AV) (h : H) : (E49_1 N call) (T49_1 b_3 o_3 a_7 n_7 c_7 a_24 n_24 c_24 x_25 x_26 l4_0 l4_1 l4_2 l4_3 l4_4 l6_0 l6_1 l6_2 l6_3 l6_4 l6_5 l6_6 l6_7) (L49_1 b_3 o_3 a_7 n_7 c_7 a_24 n_24 c_24 x_25 x_26 l4_0 l4_1 l4_2 l4_3 l4_4 l6_0 l6_1 l6_2 l6_3 l6_4 l6_5 l6_6 l6_7) h = C49_1 N call b_3 o_3 a_7 n_7 c_7 a_24 n_24 c_24 x_25 x_26 l4_0 l4_1 l4_2 l4_3 l4_4 l6_0 l6_1 l6_2 l6_3 l6_4 l6_5 l6_6 l6_7 h := by
  have g : (E49_1 N call) (T49_1 b_3 o_3 a_7 n_7 c_7 a_24 n_24 c_24 x_25 x_26 l4_0 l4_1 l4_2 l4_3 l4_4 l6_0 l6_1 l6_2 l6_3 l6_4 l6_5 l6_6 l6_7) (L49_1 b_3 o_3 a_7 n_7 c_7 a_24 n_24 c_24 x_25 x_26 l4_0 l4_1 l4_2 l4_3 l4_4 l6_0 l6_1 l6_2 l6_3 l6_4 l6_5 l6_6 l6_7) h = iter (F49_1 N call) N (T49_1 b_3 o_3 a_7 n_7 c_7 a_24 n_24 c_24 x_25 x_26 l4_0 l4_1 l4_2 l4_3 l4_4 l6_0 l6_1 l6_2 l6_3 l6_4 l6_5 l6_6 l6_7) (L49_1 b_3 o_3 a_7 n_7 c_7 a_24 n_24 c_24 x_25 x_26 l4_0 l4_1 l4_2 l4_3 l4_4 l6_0 l6_1 l6_2 l6_3 l6_4 l6_5 l6_6 l6_7) h := by kernel_rfl
  have z : I49_1 N call N b_3 o_3 a_7 n_7 c_7 a_24 n_24 c_24 x_25 x_26 l4_0 l4_1 l4_2 l4_3 l4_4 l6_0 l6_1 l6_2 l6_3 l6_4 l6_5 l6_6 l6_7 h = C49_1 N call b_3 o_3 a_7 n_7 c_7 a_24 n_24 c_24 x_25 x_26 l4_0 l4_1 l4_2 l4_3 l4_4 l6_0 l6_1 l6_2 l6_3 l6_4 l6_5 l6_6 l6_7 h := by kernel_rfl
  exact g.trans ((Q49_1 N call N b_3 o_3 a_7 n_7 c_7 a_24 n_24 c_24 x_25 x_26 l4_0 l4_1 l4_2 l4_3 l4_4 l6_0 l6_1 l6_2 l6_3 l6_4 l6_5 l6_6 l6_7 h).trans z)
theorem R49_0 (N : Nat) (call : CT) (y0 y1 : AV) (h : H) : body Tryz.prog N call Tryz.f49 A49.an [y0, y1] h = S49_0 call (fun (b_3 o_3 : Nat) (a_7 : OA) (n_7 : Nat) (c_7 : Option Nat) (a_24 : OA) (n_24 : Nat) (c_24 : Option Nat) (x_25 x_26 : Int) (l4_0 l4_1 : AV) (l4_2 l4_3 : AV) (l4_4 l6_0 : AV) (l6_1 l6_2 : AV) (l6_3 l6_4 : AV) (l6_5 l6_6 l6_7 : AV) h => (E49_1 N call) (T49_1 b_3 o_3 a_7 n_7 c_7 a_24 n_24 c_24 x_25 x_26 l4_0 l4_1 l4_2 l4_3 l4_4 l6_0 l6_1 l6_2 l6_3 l6_4 l6_5 l6_6 l6_7) (L49_1 b_3 o_3 a_7 n_7 c_7 a_24 n_24 c_24 x_25 x_26 l4_0 l4_1 l4_2 l4_3 l4_4 l6_0 l6_1 l6_2 l6_3 l6_4 l6_5 l6_6 l6_7) h) y0 y1 h := by kernel_rfl
theorem Z49 (N : Nat) (call : CT) (y0 y1 : AV) (h : H) : body Tryz.prog N call Tryz.f49 A49.an [y0, y1] h = S49 N call y0 y1 h := by
  have e1 : (fun (b_3 o_3 : Nat) (a_7 : OA) (n_7 : Nat) (c_7 : Option Nat) (a_24 : OA) (n_24 : Nat) (c_24 : Option Nat) (x_25 x_26 : Int) (l4_0 l4_1 : AV) (l4_2 l4_3 : AV) (l4_4 l6_0 : AV) (l6_1 l6_2 : AV) (l6_3 l6_4 : AV) (l6_5 l6_6 l6_7 : AV) h => (E49_1 N call) (T49_1 b_3 o_3 a_7 n_7 c_7 a_24 n_24 c_24 x_25 x_26 l4_0 l4_1 l4_2 l4_3 l4_4 l6_0 l6_1 l6_2 l6_3 l6_4 l6_5 l6_6 l6_7) (L49_1 b_3 o_3 a_7 n_7 c_7 a_24 n_24 c_24 x_25 x_26 l4_0 l4_1 l4_2 l4_3 l4_4 l6_0 l6_1 l6_2 l6_3 l6_4 l6_5 l6_6 l6_7) h) = (C49_1 N call) := by
    funext b_3 o_3 a_7 n_7 c_7 a_24 n_24 c_24 x_25 x_26 l4_0 l4_1 l4_2 l4_3 l4_4 l6_0 l6_1 l6_2 l6_3 l6_4 l6_5 l6_6 l6_7 h
    exact Z49_1 N call b_3 o_3 a_7 n_7 c_7 a_24 n_24 c_24 x_25 x_26 l4_0 l4_1 l4_2 l4_3 l4_4 l6_0 l6_1 l6_2 l6_3 l6_4 l6_5 l6_6 l6_7 h
  have r := R49_0 N call y0 y1 h
  rw [e1] at r
  have z : S49_0 call (C49_1 N call) y0 y1 h = S49 N call y0 y1 h := by kernel_rfl
  exact r.trans z
theorem V49 (N : Nat) (call : CT) (vs : List AV) (h : H) : body Tryz.prog N call Tryz.f49 A49.an vs h = row2 (fun y0 y1 => S49 N call y0 y1 h) vs := wrap2 (by kernel_rfl) (fun y0 y1 => Z49 N call y0 y1 h) vs
/- sibyl/tree.Size -/
def A50.a0 : Ann := .items [.opL 0, .op 1]
def A50.a1 : Ann := .items [.op 0, .op 1, .op 2]
def A50.a2 : Ann := .leaf
def A50.a3 : Ann := .two A50.a1 A50.a2
def A50.an : Ann := .two A50.a0 A50.a3
def S50_0 (call : CT) (y0 : AV) (h : H) : R :=
  onAgR y0 (fun l6 => row5 (fun x1 x2 x3 x4 x5 => bindR (call 85 [(.agg [x1, x2, x3, x4, x5]), (.int .i64 (Int.ofNat 2001))] h) (fun v7 h8 => onInt .i64 v7 (fun i9 => some ((.int .i64 i9), h8)))) l6)
def S50 (N : Nat) (call : CT) (y0 : AV) (h : H) : R := S50_0 call y0 h
theorem R50_0 (N : Nat) (call : CT) (y0 : AV) (h : H) : body Tryz.prog N call Tryz.f50 A50.an [y0] h = S50_0 call y0 h := by kernel_rfl
theorem Z50 (N : Nat) (call : CT) (y0 : AV) (h : H) : body Tryz.prog N call Tryz.f50 A50.an [y0] h = S50 N call y0 h := by
  have r := R50_0 N call y0 h
  have z : S50_0 call y0 h = S50 N call y0 h := by kernel_rfl
  exact r.trans z
theorem V50 (N : Nat) (call : CT) (vs : List AV) (h : H) : body Tryz.prog N call Tryz.f50 A50.an vs h = row1 (fun y0 => S50 N call y0 h) vs := wrap1 (by kernel_rfl) (fun y0 => Z50 N call y0 h) vs
end Go.Proofs
end
