import Derived.KernelRfl
import Derived.Test.YthhfobdhkndpgaaGreatDoorEvA
import Derived.Test.YthhfobdhkndpgaaGreatDoorProg
set_option linter.all false
set_option maxRecDepth 100000
set_option linter.all false
noncomputable section
namespace Go.Proofs
open Go Go.Ev
/- sibyl/sibylref1.Each -/
def A51.a0 : Ann := .items [.op 0, .op 1]
def A51.a1 : Ann := .items [.op 0]
def A51.a2 : Ann := .items [.op 0]
def A51.a3 : Ann := .items [.op 0, .op 1, .op 2, .op 3]
def A51.a4 : Ann := .leaf
def A51.a5 : Ann := .leaf
def A51.a6 : Ann := .two A51.a4 A51.a5
def A51.a7 : Ann := .two A51.a3 A51.a6
def A51.a8 : Ann := .items [.op 0, .op 1, .op 2, .op 3, .op 4, .op 5, .op 6, .op 7, .op 8]
def A51.a9 : Ann := .items [.op 0, .op 1, .op 2, .split 21, .op 3, .op 4, .op 5]
def A51.a10 : Ann := .items [.op 0, .op 1, .op 2, .op 3]
def A51.a11 : Ann := .leaf
def A51.a12 : Ann := .two A51.a10 A51.a11
def A51.a13 : Ann := .leaf
def A51.a14 : Ann := .two A51.a12 A51.a13
def A51.a15 : Ann := .join [0, 4, 5, 6, 7, 24] [] A51.a9 A51.a14
def A51.a16 : Ann := .items [.op 0, .op 1, .op 2, .op 3, .opL 4, .op 5, .op 6]
def A51.a17 : Ann := .items [.op 0, .op 1, .op 2, .op 3]
def A51.a18 : Ann := .two A51.a16 A51.a17
def A51.a19 : Ann := .join [0, 4, 5, 6, 7] [] A51.a15 A51.a18
def A51.a20 : Ann := .two A51.a8 A51.a19
def A51.a21 : Ann := .one A51.a20
def A51.a22 : Ann := .two A51.a7 A51.a21
def A51.a23 : Ann := .meet [0, 4, 5] [] A51.a22
def A51.a24 : Ann := .one A51.a23
def A51.a25 : Ann := .two A51.a2 A51.a24
def A51.a26 : Ann := .items [.op 0, .op 1, .op 2]
def A51.a27 : Ann := .leaf
def A51.a28 : Ann := .two A51.a26 A51.a27
def A51.a29 : Ann := .two A51.a25 A51.a28
def A51.a30 : Ann := .two A51.a1 A51.a29
def A51.an : Ann := .two A51.a0 A51.a30
def F51_1 (N : Nat) (call : CT) (self : K3) : K3 :=
  (codeK Tryz.prog N call (c1 (c1 (c2 (c1 (c2 (c2 (bodyOf Tryz.f51))))))) A51.a22 (fun T L h => self (keepT [0, 4, 5] T) (keepL [] L) h) (fun i T L h => match Nat.beq i 0 with | true => (codeK Tryz.prog N call (c2 (c2 (c2 (bodyOf Tryz.f51)))) A51.a28 (resK Tryz.prog Tryz.f51.results.toList) (fun _ _ _ _ => none) (resK Tryz.prog Tryz.f51.results.toList)) T L h | false => (fun _ _ _ _ => none) i T L h) (resK Tryz.prog Tryz.f51.results.toList))
def E51_1 (N : Nat) (call : CT) : K3 := iter (F51_1 N call) N
def E51_2 (N : Nat) (call : CT) (D1 : K3) : K3 :=
  (codeK Tryz.prog N call (c2 (c2 (c1 (c2 (c1 (c1 (c2 (c1 (c2 (c2 (bodyOf Tryz.f51))))))))))) A51.a18 (fun T L h => D1 (keepT [0, 4, 5] T) (keepL [] L) h) (fun i T L h => match Nat.beq i 1 with | true => (fun T L h => D1 (keepT [0, 4, 5] T) (keepL [] L) h) T L h | false => (fun i T L h => match Nat.beq i 0 with | true => (codeK Tryz.prog N call (c2 (c2 (c2 (bodyOf Tryz.f51)))) A51.a28 (resK Tryz.prog Tryz.f51.results.toList) (fun _ _ _ _ => none) (resK Tryz.prog Tryz.f51.results.toList)) T L h | false => (fun _ _ _ _ => none) i T L h) i T L h) (resK Tryz.prog Tryz.f51.results.toList))
def E51_3 (N : Nat) (call : CT) (D1 : K3) : K3 :=
  (codeK Tryz.prog N call (c2 (c1 (c2 (c1 (c2 (c1 (c1 (c2 (c1 (c2 (c2 (bodyOf Tryz.f51)))))))))))) A51.a14 (fun T L h => (E51_2 N call D1) (keepT [0, 4, 5, 6, 7] T) (keepL [] L) h) (fun i T L h => match Nat.beq i 1 with | true => (fun T L h => D1 (keepT [0, 4, 5] T) (keepL [] L) h) T L h | false => (fun i T L h => match Nat.beq i 0 with | true => (codeK Tryz.prog N call (c2 (c2 (c2 (bodyOf Tryz.f51)))) A51.a28 (resK Tryz.prog Tryz.f51.results.toList) (fun _ _ _ _ => none) (resK Tryz.prog Tryz.f51.results.toList)) T L h | false => (fun _ _ _ _ => none) i T L h) i T L h) (resK Tryz.prog Tryz.f51.results.toList))
def S51_1 (call : CT) (k3 : List Nat → OA → Nat → Option Nat → Int → Int → Int → Bool → H → R) (x_0 : List Nat) (a_4 : OA) (n_4 : Nat) (c_4 : Option Nat) (x_5 : Int) (h : H) : R :=
  ifB (ltI x_5 (Int.ofNat (x_0).length)) (slcS x_0 (some x_5) none (fun s1 => bindR (call 86 [(.str s1)] h) (fun v2 h3 => onTuple v2 0 (fun v4 => onInt .i32 v4 (fun i5 => onTuple v2 1 (fun v6 => onInt .i64 v6 (fun i7 => ifB (eqI i5 (Int.ofNat 65533)) (k3 x_0 a_4 n_4 c_4 x_5 i5 i7 (ltI i7 (Int.ofNat 2)) h3) (k3 x_0 a_4 n_4 c_4 x_5 i5 i7 false h3)))))))) (some (.tuple [(.slice a_4 n_4 c_4), (.int .i64 (Int.negSucc 0))], h))
def S51_2 (call : CT) (k1 : List Nat → OA → Nat → Option Nat → Int → H → R) (x_0 : List Nat) (a_4 : OA) (n_4 : Nat) (c_4 : Option Nat) (x_5 x_6 x_7 : Int) (h : H) : R :=
  appL h 2 a_4 n_4 c_4 1 [(.int .i32 x_6), (.int .i64 x_5)] (fun a1 n2 c3 h4 => k1 x_0 a1 n2 c3 (wrapF .i64 (Int.add x_5 x_7)) h4)
def S51_3 (call : CT) (k2 : List Nat → OA → Nat → Option Nat → Int → Int → Int → H → R) (x_0 : List Nat) (a_4 : OA) (n_4 : Nat) (c_4 : Option Nat) (x_5 x_6 x_7 : Int) (x_24 : Bool) (h : H) : R :=
  ifB x_24 (some (.tuple [(.slice a_4 n_4 c_4), (.int .i64 x_5)], h)) (k2 x_0 a_4 n_4 c_4 x_5 x_6 x_7 h)
def S51_0 (call : CT) (k1 : List Nat → OA → Nat → Option Nat → Int → H → R) (y0 : AV) (h : H) : R :=
  onStr y0 (fun s1 => k1 s1 none 0 (some 0) (Int.ofNat 0) h)
def C51_2 (N : Nat) (call : CT) (k1 : List Nat → OA → Nat → Option Nat → Int → H → R) : List Nat → OA → Nat → Option Nat → Int → Int → Int → H → R := S51_2 call k1
def C51_3 (N : Nat) (call : CT) (k1 : List Nat → OA → Nat → Option Nat → Int → H → R) : List Nat → OA → Nat → Option Nat → Int → Int → Int → Bool → H → R := S51_3 call (C51_2 N call k1)
def B51_1 (N : Nat) (call : CT) (ih : List Nat → OA → Nat → Option Nat → Int → H → R) : List Nat → OA → Nat → Option Nat → Int → H → R := S51_1 call (C51_3 N call ih)
def I51_1 (N : Nat) (call : CT) (n : Nat) : List Nat → OA → Nat → Option Nat → Int → H → R := Nat.rec (motive := fun _ => List Nat → OA → Nat → Option Nat → Int → H → R) (fun _ _ _ _ _ _ => none) (fun _ ih => B51_1 N call ih) n
def C51_1 (N : Nat) (call : CT) : List Nat → OA → Nat → Option Nat → Int → H → R := I51_1 N call N
def S51 (N : Nat) (call : CT) (y0 : AV) (h : H) : R := S51_0 call (C51_1 N call) y0 h
def T51_1 (x_0 : List Nat) (a_4 : OA) (n_4 : Nat) (c_4 : Option Nat) (x_5 : Int) : LF := [(some (.v (.str x_0))), oo, oo, oo, (some (.v (.slice a_4 n_4 c_4))), (some (.v (.int .i64 x_5))), oo, oo, oo, oo, oo, oo, oo, oo, oo, oo, oo, oo, oo, oo, oo, oo, oo, oo, oo, oo, oo, oo, oo, oo, oo, oo, oo, oo, oo, oo, oo]
def L51_1 (x_0 : List Nat) (a_4 : OA) (n_4 : Nat) (c_4 : Option Nat) (x_5 : Int) : LL := [oo, oo, oo, oo, oo, oo, oo, oo, oo, oo, oo, oo, oo, oo, oo, oo, oo, oo, oo, oo, oo, oo, oo, oo, oo, oo, oo, oo, oo, oo, oo, oo, oo, oo, oo, oo, oo]
def T51_2 (x_0 : List Nat) (a_4 : OA) (n_4 : Nat) (c_4 : Option Nat) (x_5 x_6 x_7 : Int) : LF := [(some (.v (.str x_0))), oo, oo, oo, (some (.v (.slice a_4 n_4 c_4))), (some (.v (.int .i64 x_5))), (some (.v (.int .i32 x_6))), (some (.v (.int .i64 x_7))), oo, oo, oo, oo, oo, oo, oo, oo, oo, oo, oo, oo, oo, oo, oo, oo, oo, oo, oo, oo, oo, oo, oo, oo, oo, oo, oo, oo, oo]
def L51_2 (x_0 : List Nat) (a_4 : OA) (n_4 : Nat) (c_4 : Option Nat) (x_5 x_6 x_7 : Int) : LL := [oo, oo, oo, oo, oo, oo, oo, oo, oo, oo, oo, oo, oo, oo, oo, oo, oo, oo, oo, oo, oo, oo, oo, oo, oo, oo, oo, oo, oo, oo, oo, oo, oo, oo, oo, oo, oo]
def T51_3 (x_0 : List Nat) (a_4 : OA) (n_4 : Nat) (c_4 : Option Nat) (x_5 x_6 x_7 : Int) (x_24 : Bool) : LF := [(some (.v (.str x_0))), oo, oo, oo, (some (.v (.slice a_4 n_4 c_4))), (some (.v (.int .i64 x_5))), (some (.v (.int .i32 x_6))), (some (.v (.int .i64 x_7))), oo, oo, oo, oo, oo, oo, oo, oo, oo, oo, oo, oo, oo, oo, oo, oo, (some (.v (.bool x_24))), oo, oo, oo, oo, oo, oo, oo, oo, oo, oo, oo, oo]
def L51_3 (x_0 : List Nat) (a_4 : OA) (n_4 : Nat) (c_4 : Option Nat) (x_5 x_6 x_7 : Int) (x_24 : Bool) : LL := [oo, oo, oo, oo, oo, oo, oo, oo, oo, oo, oo, oo, oo, oo, oo, oo, oo, oo, oo, oo, oo, oo, oo, oo, oo, oo, oo, oo, oo, oo, oo, oo, oo, oo, oo, oo, oo]
theorem W51_2 (N : Nat) (call : CT) (D1 : K3) : E51_2 N call D1 = (codeK Tryz.prog N call (c1 (c2 (c2 (c1 (c2 (c1 (c1 (c2 (c1 (c2 (c2 (bodyOf Tryz.f51)))))))))))) A51.a16 (codeK Tryz.prog N call (c2 (c2 (c2 (c1 (c2 (c1 (c1 (c2 (c1 (c2 (c2 (bodyOf Tryz.f51)))))))))))) A51.a17 (fun T L h => D1 (keepT [0, 4, 5] T) (keepL [] L) h) (fun i T L h => match Nat.beq i 1 with | true => (fun T L h => D1 (keepT [0, 4, 5] T) (keepL [] L) h) T L h | false => (fun i T L h => match Nat.beq i 0 with | true => (codeK Tryz.prog N call (c1 (c2 (c2 (c2 (bodyOf Tryz.f51))))) A51.a26 (codeK Tryz.prog N call (c2 (c2 (c2 (c2 (bodyOf Tryz.f51))))) A51.a27 (resK Tryz.prog Tryz.f51.results.toList) (fun _ _ _ _ => none) (resK Tryz.prog Tryz.f51.results.toList)) (fun _ _ _ _ => none) (resK Tryz.prog Tryz.f51.results.toList)) T L h | false => (fun _ _ _ _ => none) i T L h) i T L h) (resK Tryz.prog Tryz.f51.results.toList)) (fun i T L h => match Nat.beq i 1 with | true => (fun T L h => D1 (keepT [0, 4, 5] T) (keepL [] L) h) T L h | false => (fun i T L h => match Nat.beq i 0 with | true => (codeK Tryz.prog N call (c1 (c2 (c2 (c2 (bodyOf Tryz.f51))))) A51.a26 (codeK Tryz.prog N call (c2 (c2 (c2 (c2 (bodyOf Tryz.f51))))) A51.a27 (resK Tryz.prog Tryz.f51.results.toList) (fun _ _ _ _ => none) (resK Tryz.prog Tryz.f51.results.toList)) (fun _ _ _ _ => none) (resK Tryz.prog Tryz.f51.results.toList)) T L h | false => (fun _ _ _ _ => none) i T L h) i T L h) (resK Tryz.prog Tryz.f51.results.toList)) := by kernel_rfl
theorem P51_2 (N : Nat) (call : CT) (D1 : K3) (x_0 : List Nat) (a_4 : OA) (n_4 : Nat) (c_4 : Option Nat) (x_5 x_6 x_7 : Int) (h : H) : (codeK Tryz.prog N call (c1 (c2 (c2 (c1 (c2 (c1 (c1 (c2 (c1 (c2 (c2 (bodyOf Tryz.f51)))))))))))) A51.a16 (codeK Tryz.prog N call (c2 (c2 (c2 (c1 (c2 (c1 (c1 (c2 (c1 (c2 (c2 (bodyOf Tryz.f51)))))))))))) A51.a17 (fun T L h => D1 (keepT [0, 4, 5] T) (keepL [] L) h) (fun i T L h => match Nat.beq i 1 with | true => (fun T L h => D1 (keepT [0, 4, 5] T) (keepL [] L) h) T L h | false => (fun i T L h => match Nat.beq i 0 with | true => (codeK Tryz.prog N call (c1 (c2 (c2 (c2 (bodyOf Tryz.f51))))) A51.a26 (codeK Tryz.prog N call (c2 (c2 (c2 (c2 (bodyOf Tryz.f51))))) A51.a27 (resK Tryz.prog Tryz.f51.results.toList) (fun _ _ _ _ => none) (resK Tryz.prog Tryz.f51.results.toList)) (fun _ _ _ _ => none) (resK Tryz.prog Tryz.f51.results.toList)) T L h | false => (fun _ _ _ _ => none) i T L h) i T L h) (resK Tryz.prog Tryz.f51.results.toList)) (fun i T L h => match Nat.beq i 1 with | true => (fun T L h => D1 (keepT [0, 4, 5] T) (keepL [] L) h) T L h | false => (fun i T L h => match Nat.beq i 0 with | true => (codeK Tryz.prog N call (c1 (c2 (c2 (c2 (bodyOf Tryz.f51))))) A51.a26 (codeK Tryz.prog N call (c2 (c2 (c2 (c2 (bodyOf Tryz.f51))))) A51.a27 (resK Tryz.prog Tryz.f51.results.toList) (fun _ _ _ _ => none) (resK Tryz.prog Tryz.f51.results.toList)) (fun _ _ _ _ => none) (resK Tryz.prog Tryz.f51.results.toList)) T L h | false => (fun _ _ _ _ => none) i T L h) i T L h) (resK Tryz.prog Tryz.f51.results.toList)) (T51_2 x_0 a_4 n_4 c_4 x_5 x_6 x_7) (L51_2 x_0 a_4 n_4 c_4 x_5 x_6 x_7) h = S51_2 call (fun (x_0 : List Nat) (a_4 : OA) (n_4 : Nat) (c_4 : Option Nat) (x_5 : Int) h => D1 (T51_1 x_0 a_4 n_4 c_4 x_5) (L51_1 x_0 a_4 n_4 c_4 x_5) h) x_0 a_4 n_4 c_4 x_5 x_6 x_7 h := by kernel_rfl
theorem R51_2 (N : Nat) (call : CT) (D1 : K3) (x_0 : List Nat) (a_4 : OA) (n_4 : Nat) (c_4 : Option Nat) (x_5 x_6 x_7 : Int) (h : H) : E51_2 N call D1 (T51_2 x_0 a_4 n_4 c_4 x_5 x_6 x_7) (L51_2 x_0 a_4 n_4 c_4 x_5 x_6 x_7) h = S51_2 call (fun (x_0 : List Nat) (a_4 : OA) (n_4 : Nat) (c_4 : Option Nat) (x_5 : Int) h => D1 (T51_1 x_0 a_4 n_4 c_4 x_5) (L51_1 x_0 a_4 n_4 c_4 x_5) h) x_0 a_4 n_4 c_4 x_5 x_6 x_7 h := (congrFun (congrFun (congrFun (W51_2 N call D1) _) _) _).trans (P51_2 N call D1 x_0 a_4 n_4 c_4 x_5 x_6 x_7 h)
theorem Z51_2 (N : Nat) (call : CT) (D1 : K3) (x_0 : List Nat) (a_4 : OA) (n_4 : Nat) (c_4 : Option Nat) (x_5 x_6 x_7 : Int) (h : H) : E51_2 N call D1 (T51_2 x_0 a_4 n_4 c_4 x_5 x_6 x_7) (L51_2 x_0 a_4 n_4 c_4 x_5 x_6 x_7) h = C51_2 N call (fun (x_0 : List Nat) (a_4 : OA) (n_4 : Nat) (c_4 : Option Nat) (x_5 : Int) h => D1 (T51_1 x_0 a_4 n_4 c_4 x_5) (L51_1 x_0 a_4 n_4 c_4 x_5) h) x_0 a_4 n_4 c_4 x_5 x_6 x_7 h := by
  have r := R51_2 N call D1 x_0 a_4 n_4 c_4 x_5 x_6 x_7 h
  have z : S51_2 call (fun (x_0 : List Nat) (a_4 : OA) (n_4 : Nat) (c_4 : Option Nat) (x_5 : Int) h => D1 (T51_1 x_0 a_4 n_4 c_4 x_5) (L51_1 x_0 a_4 n_4 c_4 x_5) h) x_0 a_4 n_4 c_4 x_5 x_6 x_7 h = C51_2 N call (fun (x_0 : List Nat) (a_4 : OA) (n_4 : Nat) (c_4 : Option Nat) (x_5 : Int) h => D1 (T51_1 x_0 a_4 n_4 c_4 x_5) (L51_1 x_0 a_4 n_4 c_4 x_5) h) x_0 a_4 n_4 c_4 x_5 x_6 x_7 h := by kernel_rfl
  exact r.trans z
theorem W51_3 (N : Nat) (call : CT) (D1 : K3) : E51_3 N call D1 = (codeK Tryz.prog N call (c2 (c1 (c2 (c1 (c2 (c1 (c1 (c2 (c1 (c2 (c2 (bodyOf Tryz.f51)))))))))))) A51.a14 (fun T L h => (E51_2 N call D1) (keepT [0, 4, 5, 6, 7] T) (keepL [] L) h) (fun i T L h => match Nat.beq i 1 with | true => (fun T L h => D1 (keepT [0, 4, 5] T) (keepL [] L) h) T L h | false => (fun i T L h => match Nat.beq i 0 with | true => (codeK Tryz.prog N call (c1 (c2 (c2 (c2 (bodyOf Tryz.f51))))) A51.a26 (codeK Tryz.prog N call (c2 (c2 (c2 (c2 (bodyOf Tryz.f51))))) A51.a27 (resK Tryz.prog Tryz.f51.results.toList) (fun _ _ _ _ => none) (resK Tryz.prog Tryz.f51.results.toList)) (fun _ _ _ _ => none) (resK Tryz.prog Tryz.f51.results.toList)) T L h | false => (fun _ _ _ _ => none) i T L h) i T L h) (resK Tryz.prog Tryz.f51.results.toList)) := by kernel_rfl
theorem P51_3 (N : Nat) (call : CT) (D1 : K3) (J2 : K3) (x_0 : List Nat) (a_4 : OA) (n_4 : Nat) (c_4 : Option Nat) (x_5 x_6 x_7 : Int) (x_24 : Bool) (h : H) : (codeK Tryz.prog N call (c2 (c1 (c2 (c1 (c2 (c1 (c1 (c2 (c1 (c2 (c2 (bodyOf Tryz.f51)))))))))))) A51.a14 (fun T L h => J2 (keepT [0, 4, 5, 6, 7] T) (keepL [] L) h) (fun i T L h => match Nat.beq i 1 with | true => (fun T L h => D1 (keepT [0, 4, 5] T) (keepL [] L) h) T L h | false => (fun i T L h => match Nat.beq i 0 with | true => (codeK Tryz.prog N call (c1 (c2 (c2 (c2 (bodyOf Tryz.f51))))) A51.a26 (codeK Tryz.prog N call (c2 (c2 (c2 (c2 (bodyOf Tryz.f51))))) A51.a27 (resK Tryz.prog Tryz.f51.results.toList) (fun _ _ _ _ => none) (resK Tryz.prog Tryz.f51.results.toList)) (fun _ _ _ _ => none) (resK Tryz.prog Tryz.f51.results.toList)) T L h | false => (fun _ _ _ _ => none) i T L h) i T L h) (resK Tryz.prog Tryz.f51.results.toList)) (T51_3 x_0 a_4 n_4 c_4 x_5 x_6 x_7 x_24) (L51_3 x_0 a_4 n_4 c_4 x_5 x_6 x_7 x_24) h = S51_3 call (fun (x_0 : List Nat) (a_4 : OA) (n_4 : Nat) (c_4 : Option Nat) (x_5 x_6 x_7 : Int) h => J2 (T51_2 x_0 a_4 n_4 c_4 x_5 x_6 x_7) (L51_2 x_0 a_4 n_4 c_4 x_5 x_6 x_7) h) x_0 a_4 n_4 c_4 x_5 x_6 x_7 x_24 h := by kernel_rfl
theorem R51_3 (N : Nat) (call : CT) (D1 : K3) (x_0 : List Nat) (a_4 : OA) (n_4 : Nat) (c_4 : Option Nat) (x_5 x_6 x_7 : Int) (x_24 : Bool) (h : H) : E51_3 N call D1 (T51_3 x_0 a_4 n_4 c_4 x_5 x_6 x_7 x_24) (L51_3 x_0 a_4 n_4 c_4 x_5 x_6 x_7 x_24) h = S51_3 call (fun (x_0 : List Nat) (a_4 : OA) (n_4 : Nat) (c_4 : Option Nat) (x_5 x_6 x_7 : Int) h => (E51_2 N call D1) (T51_2 x_0 a_4 n_4 c_4 x_5 x_6 x_7) (L51_2 x_0 a_4 n_4 c_4 x_5 x_6 x_7) h) x_0 a_4 n_4 c_4 x_5 x_6 x_7 x_24 h := (congrFun (congrFun (congrFun (W51_3 N call D1) _) _) _).trans (P51_3 N call D1 (E51_2 N call D1) x_0 a_4 n_4 c_4 x_5 x_6 x_7 x_24 h)
theorem Z51_3 (N : Nat) (call : CT) (D1 : K3) (x_0 : List Nat) (a_4 : OA) (n_4 : Nat) (c_4 : Option Nat) (x_5 x_6 x_7 : Int) (x_24 : Bool) (h : H) : E51_3 N call D1 (T51_3 x_0 a_4 n_4 c_4 x_5 x_6 x_7 x_24) (L51_3 x_0 a_4 n_4 c_4 x_5 x_6 x_7 x_24) h = C51_3 N call (fun (x_0 : List Nat) (a_4 : OA) (n_4 : Nat) (c_4 : Option Nat) (x_5 : Int) h => D1 (T51_1 x_0 a_4 n_4 c_4 x_5) (L51_1 x_0 a_4 n_4 c_4 x_5) h) x_0 a_4 n_4 c_4 x_5 x_6 x_7 x_24 h := by
  have e2 : (fun (x_0 : List Nat) (a_4 : OA) (n_4 : Nat) (c_4 : Option Nat) (x_5 x_6 x_7 : Int) h => (E51_2 N call D1) (T51_2 x_0 a_4 n_4 c_4 x_5 x_6 x_7) (L51_2 x_0 a_4 n_4 c_4 x_5 x_6 x_7) h) = (C51_2 N call (fun (x_0 : List Nat) (a_4 : OA) (n_4 : Nat) (c_4 : Option Nat) (x_5 : Int) h => D1 (T51_1 x_0 a_4 n_4 c_4 x_5) (L51_1 x_0 a_4 n_4 c_4 x_5) h)) := by
    funext x_0 a_4 n_4 c_4 x_5 x_6 x_7 h
    exact Z51_2 N call D1 x_0 a_4 n_4 c_4 x_5 x_6 x_7 h
  have r := R51_3 N call D1 x_0 a_4 n_4 c_4 x_5 x_6 x_7 x_24 h
  rw [e2] at r
  have z : S51_3 call (C51_2 N call (fun (x_0 : List Nat) (a_4 : OA) (n_4 : Nat) (c_4 : Option Nat) (x_5 : Int) h => D1 (T51_1 x_0 a_4 n_4 c_4 x_5) (L51_1 x_0 a_4 n_4 c_4 x_5) h)) x_0 a_4 n_4 c_4 x_5 x_6 x_7 x_24 h = C51_3 N call (fun (x_0 : List Nat) (a_4 : OA) (n_4 : Nat) (c_4 : Option Nat) (x_5 : Int) h => D1 (T51_1 x_0 a_4 n_4 c_4 x_5) (L51_1 x_0 a_4 n_4 c_4 x_5) h) x_0 a_4 n_4 c_4 x_5 x_6 x_7 x_24 h := by kernel_rfl
  exact r.trans z
theorem W51_1 (N : Nat) (call : CT) (self : K3) : F51_1 N call self = (codeK Tryz.prog N call (c1 (c1 (c1 (c1 (c2 (c1 (c2 (c2 (bodyOf Tryz.f51))))))))) A51.a3 (codeK Tryz.prog N call (c2 (c1 (c1 (c1 (c2 (c1 (c2 (c2 (bodyOf Tryz.f51))))))))) A51.a6 (codeK Tryz.prog N call (c1 (c1 (c2 (c1 (c1 (c2 (c1 (c2 (c2 (bodyOf Tryz.f51)))))))))) A51.a8 (codeK Tryz.prog N call (c1 (c1 (c2 (c1 (c2 (c1 (c1 (c2 (c1 (c2 (c2 (bodyOf Tryz.f51)))))))))))) A51.a9 (fun T L h => (E51_3 N call self) (keepT [0, 4, 5, 6, 7, 24] T) (keepL [] L) h) (fun i T L h => match Nat.beq i 1 with | true => (fun T L h => self (keepT [0, 4, 5] T) (keepL [] L) h) T L h | false => (fun i T L h => match Nat.beq i 0 with | true => (codeK Tryz.prog N call (c1 (c2 (c2 (c2 (bodyOf Tryz.f51))))) A51.a26 (codeK Tryz.prog N call (c2 (c2 (c2 (c2 (bodyOf Tryz.f51))))) A51.a27 (resK Tryz.prog Tryz.f51.results.toList) (fun _ _ _ _ => none) (resK Tryz.prog Tryz.f51.results.toList)) (fun _ _ _ _ => none) (resK Tryz.prog Tryz.f51.results.toList)) T L h | false => (fun _ _ _ _ => none) i T L h) i T L h) (resK Tryz.prog Tryz.f51.results.toList)) (fun i T L h => match Nat.beq i 1 with | true => (fun T L h => self (keepT [0, 4, 5] T) (keepL [] L) h) T L h | false => (fun i T L h => match Nat.beq i 0 with | true => (codeK Tryz.prog N call (c1 (c2 (c2 (c2 (bodyOf Tryz.f51))))) A51.a26 (codeK Tryz.prog N call (c2 (c2 (c2 (c2 (bodyOf Tryz.f51))))) A51.a27 (resK Tryz.prog Tryz.f51.results.toList) (fun _ _ _ _ => none) (resK Tryz.prog Tryz.f51.results.toList)) (fun _ _ _ _ => none) (resK Tryz.prog Tryz.f51.results.toList)) T L h | false => (fun _ _ _ _ => none) i T L h) i T L h) (resK Tryz.prog Tryz.f51.results.toList)) (fun i T L h => match Nat.beq i 0 with | true => (codeK Tryz.prog N call (c1 (c2 (c2 (c2 (bodyOf Tryz.f51))))) A51.a26 (codeK Tryz.prog N call (c2 (c2 (c2 (c2 (bodyOf Tryz.f51))))) A51.a27 (resK Tryz.prog Tryz.f51.results.toList) (fun _ _ _ _ => none) (resK Tryz.prog Tryz.f51.results.toList)) (fun _ _ _ _ => none) (resK Tryz.prog Tryz.f51.results.toList)) T L h | false => (fun _ _ _ _ => none) i T L h) (resK Tryz.prog Tryz.f51.results.toList)) (fun i T L h => match Nat.beq i 0 with | true => (codeK Tryz.prog N call (c1 (c2 (c2 (c2 (bodyOf Tryz.f51))))) A51.a26 (codeK Tryz.prog N call (c2 (c2 (c2 (c2 (bodyOf Tryz.f51))))) A51.a27 (resK Tryz.prog Tryz.f51.results.toList) (fun _ _ _ _ => none) (resK Tryz.prog Tryz.f51.results.toList)) (fun _ _ _ _ => none) (resK Tryz.prog Tryz.f51.results.toList)) T L h | false => (fun _ _ _ _ => none) i T L h) (resK Tryz.prog Tryz.f51.results.toList)) := by kernel_rfl
theorem P51_1 (N : Nat) (call : CT) (self : K3) (J3 : K3) (x_0 : List Nat) (a_4 : OA) (n_4 : Nat) (c_4 : Option Nat) (x_5 : Int) (h : H) : (codeK Tryz.prog N call (c1 (c1 (c1 (c1 (c2 (c1 (c2 (c2 (bodyOf Tryz.f51))))))))) A51.a3 (codeK Tryz.prog N call (c2 (c1 (c1 (c1 (c2 (c1 (c2 (c2 (bodyOf Tryz.f51))))))))) A51.a6 (codeK Tryz.prog N call (c1 (c1 (c2 (c1 (c1 (c2 (c1 (c2 (c2 (bodyOf Tryz.f51)))))))))) A51.a8 (codeK Tryz.prog N call (c1 (c1 (c2 (c1 (c2 (c1 (c1 (c2 (c1 (c2 (c2 (bodyOf Tryz.f51)))))))))))) A51.a9 (fun T L h => J3 (keepT [0, 4, 5, 6, 7, 24] T) (keepL [] L) h) (fun i T L h => match Nat.beq i 1 with | true => (fun T L h => self (keepT [0, 4, 5] T) (keepL [] L) h) T L h | false => (fun i T L h => match Nat.beq i 0 with | true => (codeK Tryz.prog N call (c1 (c2 (c2 (c2 (bodyOf Tryz.f51))))) A51.a26 (codeK Tryz.prog N call (c2 (c2 (c2 (c2 (bodyOf Tryz.f51))))) A51.a27 (resK Tryz.prog Tryz.f51.results.toList) (fun _ _ _ _ => none) (resK Tryz.prog Tryz.f51.results.toList)) (fun _ _ _ _ => none) (resK Tryz.prog Tryz.f51.results.toList)) T L h | false => (fun _ _ _ _ => none) i T L h) i T L h) (resK Tryz.prog Tryz.f51.results.toList)) (fun i T L h => match Nat.beq i 1 with | true => (fun T L h => self (keepT [0, 4, 5] T) (keepL [] L) h) T L h | false => (fun i T L h => match Nat.beq i 0 with | true => (codeK Tryz.prog N call (c1 (c2 (c2 (c2 (bodyOf Tryz.f51))))) A51.a26 (codeK Tryz.prog N call (c2 (c2 (c2 (c2 (bodyOf Tryz.f51))))) A51.a27 (resK Tryz.prog Tryz.f51.results.toList) (fun _ _ _ _ => none) (resK Tryz.prog Tryz.f51.results.toList)) (fun _ _ _ _ => none) (resK Tryz.prog Tryz.f51.results.toList)) T L h | false => (fun _ _ _ _ => none) i T L h) i T L h) (resK Tryz.prog Tryz.f51.results.toList)) (fun i T L h => match Nat.beq i 0 with | true => (codeK Tryz.prog N call (c1 (c2 (c2 (c2 (bodyOf Tryz.f51))))) A51.a26 (codeK Tryz.prog N call (c2 (c2 (c2 (c2 (bodyOf Tryz.f51))))) A51.a27 (resK Tryz.prog Tryz.f51.results.toList) (fun _ _ _ _ => none) (resK Tryz.prog Tryz.f51.results.toList)) (fun _ _ _ _ => none) (resK Tryz.prog Tryz.f51.results.toList)) T L h | false => (fun _ _ _ _ => none) i T L h) (resK Tryz.prog Tryz.f51.results.toList)) (fun i T L h => match Nat.beq i 0 with | true => (codeK Tryz.prog N call (c1 (c2 (c2 (c2 (bodyOf Tryz.f51))))) A51.a26 (codeK Tryz.prog N call (c2 (c2 (c2 (c2 (bodyOf Tryz.f51))))) A51.a27 (resK Tryz.prog Tryz.f51.results.toList) (fun _ _ _ _ => none) (resK Tryz.prog Tryz.f51.results.toList)) (fun _ _ _ _ => none) (resK Tryz.prog Tryz.f51.results.toList)) T L h | false => (fun _ _ _ _ => none) i T L h) (resK Tryz.prog Tryz.f51.results.toList)) (T51_1 x_0 a_4 n_4 c_4 x_5) (L51_1 x_0 a_4 n_4 c_4 x_5) h = S51_1 call (fun (x_0 : List Nat) (a_4 : OA) (n_4 : Nat) (c_4 : Option Nat) (x_5 x_6 x_7 : Int) (x_24 : Bool) h => J3 (T51_3 x_0 a_4 n_4 c_4 x_5 x_6 x_7 x_24) (L51_3 x_0 a_4 n_4 c_4 x_5 x_6 x_7 x_24) h) x_0 a_4 n_4 c_4 x_5 h := by kernel_rfl
theorem R51_1 (N : Nat) (call : CT) (self : K3) (x_0 : List Nat) (a_4 : OA) (n_4 : Nat) (c_4 : Option Nat) (x_5 : Int) (h : H) : F51_1 N call self (T51_1 x_0 a_4 n_4 c_4 x_5) (L51_1 x_0 a_4 n_4 c_4 x_5) h = S51_1 call (fun (x_0 : List Nat) (a_4 : OA) (n_4 : Nat) (c_4 : Option Nat) (x_5 x_6 x_7 : Int) (x_24 : Bool) h => (E51_3 N call self) (T51_3 x_0 a_4 n_4 c_4 x_5 x_6 x_7 x_24) (L51_3 x_0 a_4 n_4 c_4 x_5 x_6 x_7 x_24) h) x_0 a_4 n_4 c_4 x_5 h := (congrFun (congrFun (congrFun (W51_1 N call self) _) _) _).trans (P51_1 N call self (E51_3 N call self) x_0 a_4 n_4 c_4 x_5 h)
theorem Q51_1 (N : Nat) (call : CT) (n : Nat) : ∀ (x_0 : List Nat) (a_4 : OA) (n_4 : Nat) (c_4 : Option Nat) (x_5 : Int) (h : H), (iter (F51_1 N call) n) (T51_1 x_0 a_4 n_4 c_4 x_5) (L51_1 x_0 a_4 n_4 c_4 x_5) h = I51_1 N call n x_0 a_4 n_4 c_4 x_5 h := by
  induction n with
  | zero => intros; exact (iter_zero _ _ _ _).trans (by kernel_rfl)
  | succ n ih =>
    intro x_0 a_4 n_4 c_4 x_5 h
    have e0 : (fun (x_0 : List Nat) (a_4 : OA) (n_4 : Nat) (c_4 : Option Nat) (x_5 : Int) h => (iter (F51_1 N call) n) (T51_1 x_0 a_4 n_4 c_4 x_5) (L51_1 x_0 a_4 n_4 c_4 x_5) h) = (I51_1 N call n) := by funext x_0 a_4 n_4 c_4 x_5 h; exact ih x_0 a_4 n_4 c_4 x_5 h
    have e3 : (fun (x_0 : List Nat) (a_4 : OA) (n_4 : Nat) (c_4 : Option Nat) (x_5 x_6 x_7 : Int) (x_24 : Bool) h => (E51_3 N call (iter (F51_1 N call) n)) (T51_3 x_0 a_4 n_4 c_4 x_5 x_6 x_7 x_24) (L51_3 x_0 a_4 n_4 c_4 x_5 x_6 x_7 x_24) h) = (C51_3 N call (I51_1 N call n)) := by
      funext x_0 a_4 n_4 c_4 x_5 x_6 x_7 x_24 h
      have q := Z51_3 N call (iter (F51_1 N call) n) x_0 a_4 n_4 c_4 x_5 x_6 x_7 x_24 h
      rw [e0] at q
      exact q
    have r := R51_1 N call (iter (F51_1 N call) n) x_0 a_4 n_4 c_4 x_5 h
    rw [e3] at r
    have g := iter_succ (F51_1 N call) n (T51_1 x_0 a_4 n_4 c_4 x_5) (L51_1 x_0 a_4 n_4 c_4 x_5) h
    have z : S51_1 call (C51_3 N call (I51_1 N call n)) x_0 a_4 n_4 c_4 x_5 h = I51_1 N call (n + 1) x_0 a_4 n_4 c_4 x_5 h := by kernel_rfl
    exact g.trans (r.trans z)
theorem Z51_1 (N : Nat) (call : CT) (x_0 : List Nat) (a_4 : OA) (n_4 : Nat) (c_4 : Option Nat) (x_5 : Int) (h : H) : (E51_1 N call) (T51_1 x_0 a_4 n_4 c_4 x_5) (L51_1 x_0 a_4 n_4 c_4 x_5) h = C51_1 N call x_0 a_4 n_4 c_4 x_5 h := by
  have g : (E51_1 N call) (T51_1 x_0 a_4 n_4 c_4 x_5) (L51_1 x_0 a_4 n_4 c_4 x_5) h = iter (F51_1 N call) N (T51_1 x_0 a_4 n_4 c_4 x_5) (L51_1 x_0 a_4 n_4 c_4 x_5) h := by kernel_rfl
  have z : I51_1 N call N x_0 a_4 n_4 c_4 x_5 h = C51_1 N call x_0 a_4 n_4 c_4 x_5 h := by kernel_rfl
  exact g.trans ((Q51_1 N call N x_0 a_4 n_4 c_4 x_5 h).trans z)
theorem W51_0 (N : Nat) (call : CT) : codeK Tryz.prog N call (bodyOf Tryz.f51) A51.an (resK Tryz.prog Tryz.f51.results.toList) (fun _ _ _ _ => none) (resK Tryz.prog Tryz.f51.results.toList) = (codeK Tryz.prog N call (c1 (bodyOf Tryz.f51)) A51.a0 (codeK Tryz.prog N call (c1 (c2 (bodyOf Tryz.f51))) A51.a1 (codeK Tryz.prog N call (c1 (c1 (c2 (c2 (bodyOf Tryz.f51))))) A51.a2 (fun T L h => (E51_1 N call) (keepT [0, 4, 5] T) (keepL [] L) h) (fun _ _ _ _ => none) (resK Tryz.prog Tryz.f51.results.toList)) (fun _ _ _ _ => none) (resK Tryz.prog Tryz.f51.results.toList)) (fun _ _ _ _ => none) (resK Tryz.prog Tryz.f51.results.toList)) := by kernel_rfl
theorem P51_0 (N : Nat) (call : CT) (J1 : K3) (y0 : AV) (h : H) : bodyK Tryz.prog Tryz.f51 (codeK Tryz.prog N call (c1 (bodyOf Tryz.f51)) A51.a0 (codeK Tryz.prog N call (c1 (c2 (bodyOf Tryz.f51))) A51.a1 (codeK Tryz.prog N call (c1 (c1 (c2 (c2 (bodyOf Tryz.f51))))) A51.a2 (fun T L h => J1 (keepT [0, 4, 5] T) (keepL [] L) h) (fun _ _ _ _ => none) (resK Tryz.prog Tryz.f51.results.toList)) (fun _ _ _ _ => none) (resK Tryz.prog Tryz.f51.results.toList)) (fun _ _ _ _ => none) (resK Tryz.prog Tryz.f51.results.toList)) [y0] h = S51_0 call (fun (x_0 : List Nat) (a_4 : OA) (n_4 : Nat) (c_4 : Option Nat) (x_5 : Int) h => J1 (T51_1 x_0 a_4 n_4 c_4 x_5) (L51_1 x_0 a_4 n_4 c_4 x_5) h) y0 h := by kernel_rfl
theorem R51_0 (N : Nat) (call : CT) (y0 : AV) (h : H) : body Tryz.prog N call Tryz.f51 A51.an [y0] h = S51_0 call (fun (x_0 : List Nat) (a_4 : OA) (n_4 : Nat) (c_4 : Option Nat) (x_5 : Int) h => (E51_1 N call) (T51_1 x_0 a_4 n_4 c_4 x_5) (L51_1 x_0 a_4 n_4 c_4 x_5) h) y0 h := (body_eq Tryz.prog N call Tryz.f51 A51.an [y0] h (W51_0 N call)).trans (P51_0 N call (E51_1 N call) y0 h)
theorem Z51 (N : Nat) (call : CT) (y0 : AV) (h : H) : body Tryz.prog N call Tryz.f51 A51.an [y0] h = S51 N call y0 h := by
  have e1 : (fun (x_0 : List Nat) (a_4 : OA) (n_4 : Nat) (c_4 : Option Nat) (x_5 : Int) h => (E51_1 N call) (T51_1 x_0 a_4 n_4 c_4 x_5) (L51_1 x_0 a_4 n_4 c_4 x_5) h) = (C51_1 N call) := by
    funext x_0 a_4 n_4 c_4 x_5 h
    exact Z51_1 N call x_0 a_4 n_4 c_4 x_5 h
  have r := R51_0 N call y0 h
  rw [e1] at r
  have z : S51_0 call (C51_1 N call) y0 h = S51 N call y0 h := by kernel_rfl
  exact r.trans z
theorem V51 (N : Nat) (call : CT) (vs : List AV) (h : H) : body Tryz.prog N call Tryz.f51 A51.an vs h = row1 (fun y0 => S51 N call y0 h) vs := wrap1 (by kernel_rfl) (fun y0 => Z51 N call y0 h) vs
/- (*sibyl/sibylref2.reader).skip -/
def A52.a0 : Ann := .items [.op 0, .op 1, .op 2, .op 3, .split 6, .op 4, .op 5, .op 6]
def A52.a1 : Ann := .leaf
def A52.a2 : Ann := .leaf
def A52.a3 : Ann := .two A52.a1 A52.a2
def A52.a4 : Ann := .join [0, 9] [] A52.a0 A52.a3
def A52.a5 : Ann := .items [.op 0, .op 1, .op 2]
def A52.a6 : Ann := .items [.op 0, .op 1, .op 2, .op 3, .op 4, .op 5, .op 6, .op 7]
def A52.a7 : Ann := .drawn [.op 0, .op 1, .split 20, .op 2, .op 3, .op 4, .op 5, .op 6, .op 7, .op 8, .op 9, .op 10, .op 11, .op 12, .op 13, .split 32, .op 14, .op 15, .op 16, .op 17]
def A52.a8 : Ann := .leaf
def A52.a9 : Ann := .leaf
def A52.a10 : Ann := .two A52.a8 A52.a9
def A52.a11 : Ann := .join [0, 2, 36] [] A52.a7 A52.a10
def A52.a12 : Ann := .items [.op 0, .op 1, .op 2, .op 3, .op 4, .op 5, .op 6, .op 7]
def A52.a13 : Ann := .one A52.a12
def A52.a14 : Ann := .join [0, 2] [] A52.a11 A52.a13
def A52.a15 : Ann := .meet [0, 2] [] A52.a14
def A52.a16 : Ann := .one A52.a15
def A52.a17 : Ann := .two A52.a6 A52.a16
def A52.a18 : Ann := .two A52.a5 A52.a17
def A52.a19 : Ann := .one A52.a18
def A52.a20 : Ann := .join [0] [] A52.a4 A52.a19
def A52.a21 : Ann := .meet [0] [] A52.a20
def A52.an : Ann := .one A52.a21
def F52_1 (N : Nat) (call : CT) (self : K3) : K3 :=
  (codeK Tryz.prog N call (c1 (c1 (bodyOf Tryz.f52))) A52.a20 (fun T L h => self (keepT [0] T) (keepL [] L) h) (fun i T L h => match Nat.beq i 0 with | true => (resK Tryz.prog Tryz.f52.results.toList) T L h | false => (fun _ _ _ _ => none) i T L h) (resK Tryz.prog Tryz.f52.results.toList))
def E52_1 (N : Nat) (call : CT) : K3 := iter (F52_1 N call) N
def E52_2 (N : Nat) (call : CT) (D1 : K3) : K3 :=
  (codeK Tryz.prog N call (c2 (c1 (c1 (bodyOf Tryz.f52)))) A52.a19 (fun T L h => D1 (keepT [0] T) (keepL [] L) h) (fun i T L h => match Nat.beq i 0 with | true => (resK Tryz.prog Tryz.f52.results.toList) T L h | false => (fun _ _ _ _ => none) i T L h) (resK Tryz.prog Tryz.f52.results.toList))
def E52_3 (N : Nat) (call : CT) (D1 : K3) : K3 :=
  (codeK Tryz.prog N call (c2 (c1 (c1 (c1 (bodyOf Tryz.f52))))) A52.a3 (fun T L h => (E52_2 N call D1) (keepT [0] T) (keepL [] L) h) (fun i T L h => match Nat.beq i 0 with | true => (resK Tryz.prog Tryz.f52.results.toList) T L h | false => (fun _ _ _ _ => none) i T L h) (resK Tryz.prog Tryz.f52.results.toList))
def F52_4 (N : Nat) (call : CT) (D1 : K3) (self : K3) : K3 :=
  (codeK Tryz.prog N call (c1 (c1 (c2 (c2 (c1 (c2 (c1 (c1 (bodyOf Tryz.f52))))))))) A52.a14 (fun T L h => self (keepT [0, 2] T) (keepL [] L) h) (fun i T L h => match Nat.beq i 2 with | true => (fun T L h => D1 (keepT [0] T) (keepL [] L) h) T L h | false => (fun i T L h => match Nat.beq i 1 with | true => (fun T L h => D1 (keepT [0] T) (keepL [] L) h) T L h | false => (fun i T L h => match Nat.beq i 0 with | true => (resK Tryz.prog Tryz.f52.results.toList) T L h | false => (fun _ _ _ _ => none) i T L h) i T L h) i T L h) (resK Tryz.prog Tryz.f52.results.toList))
def E52_4 (N : Nat) (call : CT) (D1 : K3) : K3 := iter (F52_4 N call D1) N
def E52_5 (N : Nat) (call : CT) (D1 : K3) (D4 : K3) : K3 :=
  (codeK Tryz.prog N call (c2 (c1 (c1 (c2 (c2 (c1 (c2 (c1 (c1 (bodyOf Tryz.f52)))))))))) A52.a13 (fun T L h => D4 (keepT [0, 2] T) (keepL [] L) h) (fun i T L h => match Nat.beq i 2 with | true => (fun T L h => D1 (keepT [0] T) (keepL [] L) h) T L h | false => (fun i T L h => match Nat.beq i 1 with | true => (fun T L h => D1 (keepT [0] T) (keepL [] L) h) T L h | false => (fun i T L h => match Nat.beq i 0 with | true => (resK Tryz.prog Tryz.f52.results.toList) T L h | false => (fun _ _ _ _ => none) i T L h) i T L h) i T L h) (resK Tryz.prog Tryz.f52.results.toList))
def E52_6 (N : Nat) (call : CT) (D1 : K3) (D4 : K3) : K3 :=
  (codeK Tryz.prog N call (c2 (c1 (c1 (c1 (c2 (c2 (c1 (c2 (c1 (c1 (bodyOf Tryz.f52))))))))))) A52.a10 (fun T L h => (E52_5 N call D1 D4) (keepT [0, 2] T) (keepL [] L) h) (fun i T L h => match Nat.beq i 2 with | true => (fun T L h => D1 (keepT [0] T) (keepL [] L) h) T L h | false => (fun i T L h => match Nat.beq i 1 with | true => (fun T L h => D1 (keepT [0] T) (keepL [] L) h) T L h | false => (fun i T L h => match Nat.beq i 0 with | true => (resK Tryz.prog Tryz.f52.results.toList) T L h | false => (fun _ _ _ _ => none) i T L h) i T L h) i T L h) (resK Tryz.prog Tryz.f52.results.toList))
def S52_1 (call : CT) (k3 : OA → Bool → H → R) (x_0 : OA) (h : H) : R :=
  bindR (call 87 [(.ptr x_0), (.int .i64 (Int.ofNat 0))] h) (fun v1 h2 => onInt .i64 v1 (fun i3 => ifB (eqI i3 (Int.ofNat 3)) (k3 x_0 true h2) (bindR (call 88 [(.ptr x_0), (.int .i64 (Int.ofNat 0)), (.int .i32 (Int.ofNat 35))] h2) (fun v4 h5 => onBool v4 (fun e6 => k3 x_0 e6 h5)))))
def S52_2 (call : CT) (k4 : OA → Bool → H → R) (x_0 : OA) (h : H) : R :=
  bindR (call 88 [(.ptr x_0), (.int .i64 (Int.ofNat 0)), (.int .i32 (Int.ofNat 35))] h) (fun v1 h2 => onBool v1 (fun e3 => onSome x_0 (fun b4 o5 => ldK h2 b4 (o5 + 3) 1 (one (fun v6 => onInt .i64 v6 (fun i7 => onSome x_0 (fun b8 o9 => stK h2 b8 (o9 + 3) [(.int .i64 (wrapF .i64 (Int.add i7 (Int.ofNat 1))))] (fun h10 => k4 x_0 e3 h10))))))))
def S52_3 (call : CT) (k2 : OA → H → R) (x_0 : OA) (x_9 : Bool) (h : H) : R :=
  ifB x_9 (k2 x_0 h) (some (.tuple [], h))
def S52_4 (call : CT) (k6 : OA → Bool → Bool → H → R) (x_0 : OA) (x_2 : Bool) (h : H) : R :=
  ifB x_2 (onSome x_0 (fun b1 o2 => ldK h b1 (o2 + 3) 1 (one (fun v3 => onInt .i64 v3 (fun i4 => onSome x_0 (fun b5 o6 => ldK h b5 (o6 + 1) 1 (one (fun v7 => onSlice v7 (fun a8 n9 c10 => ifB (ltI i4 (Int.ofNat n9)) (bindR (call 88 [(.ptr x_0), (.int .i64 (Int.ofNat 0)), (.int .i32 (Int.ofNat 10))] h) (fun v11 h12 => onBool v11 (fun e13 => k6 x_0 x_2 (!e13) h12))) (k6 x_0 x_2 false h)))))))))) (k6 x_0 x_2 false h)
def S52_5 (call : CT) (k4 : OA → Bool → H → R) (x_0 : OA) (x_2 : Bool) (h : H) : R :=
  onSome x_0 (fun b1 o2 => ldK h b1 (o2 + 3) 1 (one (fun v3 => onInt .i64 v3 (fun i4 => onSome x_0 (fun b5 o6 => stK h b5 (o6 + 3) [(.int .i64 (wrapF .i64 (Int.add i4 (Int.ofNat 1))))] (fun h7 => k4 x_0 x_2 h7))))))
def S52_6 (call : CT) (k1 : OA → H → R) (k5 : OA → Bool → H → R) (x_0 : OA) (x_2 x_36 : Bool) (h : H) : R :=
  ifB x_36 (k5 x_0 x_2 h) (k1 x_0 h)
def S52_0 (call : CT) (k1 : OA → H → R) (y0 : AV) (h : H) : R :=
  onPtr y0 (fun p1 => k1 p1 h)
def C52_5 (N : Nat) (call : CT) (k1 : OA → H → R) (k4 : OA → Bool → H → R) : OA → Bool → H → R := S52_5 call k4
def C52_6 (N : Nat) (call : CT) (k1 : OA → H → R) (k4 : OA → Bool → H → R) : OA → Bool → Bool → H → R := S52_6 call k1 (C52_5 N call k1 k4)
def B52_4 (N : Nat) (call : CT) (k1 : OA → H → R) (ih : OA → Bool → H → R) : OA → Bool → H → R := S52_4 call (C52_6 N call k1 ih)
def I52_4 (N : Nat) (call : CT) (k1 : OA → H → R) (n : Nat) : OA → Bool → H → R := Nat.rec (motive := fun _ => OA → Bool → H → R) (fun _ _ _ => none) (fun _ ih => B52_4 N call k1 ih) n
def C52_4 (N : Nat) (call : CT) (k1 : OA → H → R) : OA → Bool → H → R := I52_4 N call k1 N
def C52_2 (N : Nat) (call : CT) (k1 : OA → H → R) : OA → H → R := S52_2 call (C52_4 N call k1)
def C52_3 (N : Nat) (call : CT) (k1 : OA → H → R) : OA → Bool → H → R := S52_3 call (C52_2 N call k1)
def B52_1 (N : Nat) (call : CT) (ih : OA → H → R) : OA → H → R := S52_1 call (C52_3 N call ih)
def I52_1 (N : Nat) (call : CT) (n : Nat) : OA → H → R := Nat.rec (motive := fun _ => OA → H → R) (fun _ _ => none) (fun _ ih => B52_1 N call ih) n
def C52_1 (N : Nat) (call : CT) : OA → H → R := I52_1 N call N
def S52 (N : Nat) (call : CT) (y0 : AV) (h : H) : R := S52_0 call (C52_1 N call) y0 h
def T52_1 (x_0 : OA) : LF := [(some (.v (.ptr x_0))), oo, oo, oo, oo, oo, oo, oo, oo, oo, oo, oo, oo, oo, oo, oo, oo, oo, oo, oo, oo, oo, oo, oo, oo, oo, oo, oo, oo, oo, oo, oo, oo, oo, oo, oo, oo, oo, oo, oo, oo, oo, oo, oo]
def L52_1 (x_0 : OA) : LL := [oo, oo, oo, oo, oo, oo, oo, oo, oo, oo, oo, oo, oo, oo, oo, oo, oo, oo, oo, oo, oo, oo, oo, oo, oo, oo, oo, oo, oo, oo, oo, oo, oo, oo, oo, oo, oo, oo, oo, oo, oo, oo, oo, oo]
def T52_2 (x_0 : OA) : LF := [(some (.v (.ptr x_0))), oo, oo, oo, oo, oo, oo, oo, oo, oo, oo, oo, oo, oo, oo, oo, oo, oo, oo, oo, oo, oo, oo, oo, oo, oo, oo, oo, oo, oo, oo, oo, oo, oo, oo, oo, oo, oo, oo, oo, oo, oo, oo, oo]
def L52_2 (x_0 : OA) : LL := [oo, oo, oo, oo, oo, oo, oo, oo, oo, oo, oo, oo, oo, oo, oo, oo, oo, oo, oo, oo, oo, oo, oo, oo, oo, oo, oo, oo, oo, oo, oo, oo, oo, oo, oo, oo, oo, oo, oo, oo, oo, oo, oo, oo]
def T52_3 (x_0 : OA) (x_9 : Bool) : LF := [(some (.v (.ptr x_0))), oo, oo, oo, oo, oo, oo, oo, oo, (some (.v (.bool x_9))), oo, oo, oo, oo, oo, oo, oo, oo, oo, oo, oo, oo, oo, oo, oo, oo, oo, oo, oo, oo, oo, oo, oo, oo, oo, oo, oo, oo, oo, oo, oo, oo, oo, oo]
def L52_3 (x_0 : OA) (x_9 : Bool) : LL := [oo, oo, oo, oo, oo, oo, oo, oo, oo, oo, oo, oo, oo, oo, oo, oo, oo, oo, oo, oo, oo, oo, oo, oo, oo, oo, oo, oo, oo, oo, oo, oo, oo, oo, oo, oo, oo, oo, oo, oo, oo, oo, oo, oo]
def T52_4 (x_0 : OA) (x_2 : Bool) : LF := [(some (.v (.ptr x_0))), none, (some (.v (.bool x_2))), oo, oo, oo, oo, oo, oo, oo, oo, oo, oo, oo, oo, oo, oo, oo, oo, oo, oo, oo, oo, oo, oo, oo, oo, oo, oo, oo, oo, oo, oo, oo, oo, oo, oo, oo, oo, oo, oo, oo, oo, oo]
def L52_4 (x_0 : OA) (x_2 : Bool) : LL := [oo, oo, oo, oo, oo, oo, oo, oo, oo, oo, oo, oo, oo, oo, oo, oo, oo, oo, oo, oo, oo, oo, oo, oo, oo, oo, oo, oo, oo, oo, oo, oo, oo, oo, oo, oo, oo, oo, oo, oo, oo, oo, oo, oo]
def T52_5 (x_0 : OA) (x_2 : Bool) : LF := [(some (.v (.ptr x_0))), none, (some (.v (.bool x_2))), oo, oo, oo, oo, oo, oo, oo, oo, oo, oo, oo, oo, oo, oo, oo, oo, oo, oo, oo, oo, oo, oo, oo, oo, oo, oo, oo, oo, oo, oo, oo, oo, oo, oo, oo, oo, oo, oo, oo, oo, oo]
def L52_5 (x_0 : OA) (x_2 : Bool) : LL := [oo, oo, oo, oo, oo, oo, oo, oo, oo, oo, oo, oo, oo, oo, oo, oo, oo, oo, oo, oo, oo, oo, oo, oo, oo, oo, oo, oo, oo, oo, oo, oo, oo, oo, oo, oo, oo, oo, oo, oo, oo, oo, oo, oo]
def T52_6 (x_0 : OA) (x_2 x_36 : Bool) : LF := [(some (.v (.ptr x_0))), none, (some (.v (.bool x_2))), oo, oo, oo, oo, oo, oo, oo, oo, oo, oo, oo, oo, oo, oo, oo, oo, oo, oo, oo, oo, oo, oo, oo, oo, oo, oo, oo, oo, oo, oo, oo, oo, oo, (some (.v (.bool x_36))), oo, oo, oo, oo, oo, oo, oo]
def L52_6 (x_0 : OA) (x_2 x_36 : Bool) : LL := [oo, oo, oo, oo, oo, oo, oo, oo, oo, oo, oo, oo, oo, oo, oo, oo, oo, oo, oo, oo, oo, oo, oo, oo, oo, oo, oo, oo, oo, oo, oo, oo, oo, oo, oo, oo, oo, oo, oo, oo, oo, oo, oo, oo]
theorem R52_5 (N : Nat) (call : CT) (D1 : K3) (D4 : K3) (x_0 : OA) (x_2 : Bool) (h : H) : E52_5 N call D1 D4 (T52_5 x_0 x_2) (L52_5 x_0 x_2) h = S52_5 call (fun (x_0 : OA) (x_2 : Bool) h => D4 (T52_4 x_0 x_2) (L52_4 x_0 x_2) h) x_0 x_2 h := by kernel_rfl
theorem Z52_5 (N : Nat) (call : CT) (D1 : K3) (D4 : K3) (x_0 : OA) (x_2 : Bool) (h : H) : E52_5 N call D1 D4 (T52_5 x_0 x_2) (L52_5 x_0 x_2) h = C52_5 N call (fun (x_0 : OA) h => D1 (T52_1 x_0) (L52_1 x_0) h) (fun (x_0 : OA) (x_2 : Bool) h => D4 (T52_4 x_0 x_2) (L52_4 x_0 x_2) h) x_0 x_2 h := by
  have r := R52_5 N call D1 D4 x_0 x_2 h
  have z : S52_5 call (fun (x_0 : OA) (x_2 : Bool) h => D4 (T52_4 x_0 x_2) (L52_4 x_0 x_2) h) x_0 x_2 h = C52_5 N call (fun (x_0 : OA) h => D1 (T52_1 x_0) (L52_1 x_0) h) (fun (x_0 : OA) (x_2 : Bool) h => D4 (T52_4 x_0 x_2) (L52_4 x_0 x_2) h) x_0 x_2 h := by kernel_rfl
  exact r.trans z
theorem R52_6 (N : Nat) (call : CT) (D1 : K3) (D4 : K3) (x_0 : OA) (x_2 x_36 : Bool) (h : H) : E52_6 N call D1 D4 (T52_6 x_0 x_2 x_36) (L52_6 x_0 x_2 x_36) h = S52_6 call (fun (x_0 : OA) h => D1 (T52_1 x_0) (L52_1 x_0) h) (fun (x_0 : OA) (x_2 : Bool) h => (E52_5 N call D1 D4) (T52_5 x_0 x_2) (L52_5 x_0 x_2) h) x_0 x_2 x_36 h := by kernel_rfl
theorem Z52_6 (N : Nat) (call : CT) (D1 : K3) (D4 : K3) (x_0 : OA) (x_2 x_36 : Bool) (h : H) : E52_6 N call D1 D4 (T52_6 x_0 x_2 x_36) (L52_6 x_0 x_2 x_36) h = C52_6 N call (fun (x_0 : OA) h => D1 (T52_1 x_0) (L52_1 x_0) h) (fun (x_0 : OA) (x_2 : Bool) h => D4 (T52_4 x_0 x_2) (L52_4 x_0 x_2) h) x_0 x_2 x_36 h := by
  have e5 : (fun (x_0 : OA) (x_2 : Bool) h => (E52_5 N call D1 D4) (T52_5 x_0 x_2) (L52_5 x_0 x_2) h) = (C52_5 N call (fun (x_0 : OA) h => D1 (T52_1 x_0) (L52_1 x_0) h) (fun (x_0 : OA) (x_2 : Bool) h => D4 (T52_4 x_0 x_2) (L52_4 x_0 x_2) h)) := by
    funext x_0 x_2 h
    exact Z52_5 N call D1 D4 x_0 x_2 h
  have r := R52_6 N call D1 D4 x_0 x_2 x_36 h
  rw [e5] at r
  have z : S52_6 call (fun (x_0 : OA) h => D1 (T52_1 x_0) (L52_1 x_0) h) (C52_5 N call (fun (x_0 : OA) h => D1 (T52_1 x_0) (L52_1 x_0) h) (fun (x_0 : OA) (x_2 : Bool) h => D4 (T52_4 x_0 x_2) (L52_4 x_0 x_2) h)) x_0 x_2 x_36 h = C52_6 N call (fun (x_0 : OA) h => D1 (T52_1 x_0) (L52_1 x_0) h) (fun (x_0 : OA) (x_2 : Bool) h => D4 (T52_4 x_0 x_2) (L52_4 x_0 x_2) h) x_0 x_2 x_36 h := by kernel_rfl
  exact r.trans z
theorem R52_4 (N : Nat) (call : CT) (D1 : K3) (self : K3) (x_0 : OA) (x_2 : Bool) (h : H) : F52_4 N call D1 self (T52_4 x_0 x_2) (L52_4 x_0 x_2) h = S52_4 call (fun (x_0 : OA) (x_2 x_36 : Bool) h => (E52_6 N call D1 self) (T52_6 x_0 x_2 x_36) (L52_6 x_0 x_2 x_36) h) x_0 x_2 h := by kernel_rfl
theorem Q52_4 (N : Nat) (call : CT) (D1 : K3) (n : Nat) : ∀ (x_0 : OA) (x_2 : Bool) (h : H), (iter (F52_4 N call D1) n) (T52_4 x_0 x_2) (L52_4 x_0 x_2) h = I52_4 N call (fun (x_0 : OA) h => D1 (T52_1 x_0) (L52_1 x_0) h) n x_0 x_2 h := by
  induction n with
  | zero => intros; exact (iter_zero _ _ _ _).trans (by kernel_rfl)
  | succ n ih =>
    intro x_0 x_2 h
    have e0 : (fun (x_0 : OA) (x_2 : Bool) h => (iter (F52_4 N call D1) n) (T52_4 x_0 x_2) (L52_4 x_0 x_2) h) = (I52_4 N call (fun (x_0 : OA) h => D1 (T52_1 x_0) (L52_1 x_0) h) n) := by funext x_0 x_2 h; exact ih x_0 x_2 h
    have e6 : (fun (x_0 : OA) (x_2 x_36 : Bool) h => (E52_6 N call D1 (iter (F52_4 N call D1) n)) (T52_6 x_0 x_2 x_36) (L52_6 x_0 x_2 x_36) h) = (C52_6 N call (fun (x_0 : OA) h => D1 (T52_1 x_0) (L52_1 x_0) h) (I52_4 N call (fun (x_0 : OA) h => D1 (T52_1 x_0) (L52_1 x_0) h) n)) := by
      funext x_0 x_2 x_36 h
      have q := Z52_6 N call D1 (iter (F52_4 N call D1) n) x_0 x_2 x_36 h
      rw [e0] at q
      exact q
    have r := R52_4 N call D1 (iter (F52_4 N call D1) n) x_0 x_2 h
    rw [e6] at r
    have g := iter_succ (F52_4 N call D1) n (T52_4 x_0 x_2) (L52_4 x_0 x_2) h
    have z : S52_4 call (C52_6 N call (fun (x_0 : OA) h => D1 (T52_1 x_0) (L52_1 x_0) h) (I52_4 N call (fun (x_0 : OA) h => D1 (T52_1 x_0) (L52_1 x_0) h) n)) x_0 x_2 h = I52_4 N call (fun (x_0 : OA) h => D1 (T52_1 x_0) (L52_1 x_0) h) (n + 1) x_0 x_2 h := by kernel_rfl
    exact g.trans (r.trans z)
theorem Z52_4 (N : Nat) (call : CT) (D1 : K3) (x_0 : OA) (x_2 : Bool) (h : H) : (E52_4 N call D1) (T52_4 x_0 x_2) (L52_4 x_0 x_2) h = C52_4 N call (fun (x_0 : OA) h => D1 (T52_1 x_0) (L52_1 x_0) h) x_0 x_2 h := by
  have g : (E52_4 N call D1) (T52_4 x_0 x_2) (L52_4 x_0 x_2) h = iter (F52_4 N call D1) N (T52_4 x_0 x_2) (L52_4 x_0 x_2) h := by kernel_rfl
  have z : I52_4 N call (fun (x_0 : OA) h => D1 (T52_1 x_0) (L52_1 x_0) h) N x_0 x_2 h = C52_4 N call (fun (x_0 : OA) h => D1 (T52_1 x_0) (L52_1 x_0) h) x_0 x_2 h := by kernel_rfl
  exact g.trans ((Q52_4 N call D1 N x_0 x_2 h).trans z)
theorem R52_2 (N : Nat) (call : CT) (D1 : K3) (x_0 : OA) (h : H) : E52_2 N call D1 (T52_2 x_0) (L52_2 x_0) h = S52_2 call (fun (x_0 : OA) (x_2 : Bool) h => (E52_4 N call D1) (T52_4 x_0 x_2) (L52_4 x_0 x_2) h) x_0 h := by kernel_rfl
theorem Z52_2 (N : Nat) (call : CT) (D1 : K3) (x_0 : OA) (h : H) : E52_2 N call D1 (T52_2 x_0) (L52_2 x_0) h = C52_2 N call (fun (x_0 : OA) h => D1 (T52_1 x_0) (L52_1 x_0) h) x_0 h := by
  have e4 : (fun (x_0 : OA) (x_2 : Bool) h => (E52_4 N call D1) (T52_4 x_0 x_2) (L52_4 x_0 x_2) h) = (C52_4 N call (fun (x_0 : OA) h => D1 (T52_1 x_0) (L52_1 x_0) h)) := by
    funext x_0 x_2 h
    exact Z52_4 N call D1 x_0 x_2 h
  have r := R52_2 N call D1 x_0 h
  rw [e4] at r
  have z : S52_2 call (C52_4 N call (fun (x_0 : OA) h => D1 (T52_1 x_0) (L52_1 x_0) h)) x_0 h = C52_2 N call (fun (x_0 : OA) h => D1 (T52_1 x_0) (L52_1 x_0) h) x_0 h := by kernel_rfl
  exact r.trans z
theorem R52_3 (N : Nat) (call : CT) (D1 : K3) (x_0 : OA) (x_9 : Bool) (h : H) : E52_3 N call D1 (T52_3 x_0 x_9) (L52_3 x_0 x_9) h = S52_3 call (fun (x_0 : OA) h => (E52_2 N call D1) (T52_2 x_0) (L52_2 x_0) h) x_0 x_9 h := by kernel_rfl
theorem Z52_3 (N : Nat) (call : CT) (D1 : K3) (x_0 : OA) (x_9 : Bool) (h : H) : E52_3 N call D1 (T52_3 x_0 x_9) (L52_3 x_0 x_9) h = C52_3 N call (fun (x_0 : OA) h => D1 (T52_1 x_0) (L52_1 x_0) h) x_0 x_9 h := by
  have e2 : (fun (x_0 : OA) h => (E52_2 N call D1) (T52_2 x_0) (L52_2 x_0) h) = (C52_2 N call (fun (x_0 : OA) h => D1 (T52_1 x_0) (L52_1 x_0) h)) := by
    funext x_0 h
    exact Z52_2 N call D1 x_0 h
  have r := R52_3 N call D1 x_0 x_9 h
  rw [e2] at r
  have z : S52_3 call (C52_2 N call (fun (x_0 : OA) h => D1 (T52_1 x_0) (L52_1 x_0) h)) x_0 x_9 h = C52_3 N call (fun (x_0 : OA) h => D1 (T52_1 x_0) (L52_1 x_0) h) x_0 x_9 h := by kernel_rfl
  exact r.trans z
theorem R52_1 (N : Nat) (call : CT) (self : K3) (x_0 : OA) (h : H) : F52_1 N call self (T52_1 x_0) (L52_1 x_0) h = S52_1 call (fun (x_0 : OA) (x_9 : Bool) h => (E52_3 N call self) (T52_3 x_0 x_9) (L52_3 x_0 x_9) h) x_0 h := by kernel_rfl
theorem Q52_1 (N : Nat) (call : CT) (n : Nat) : ∀ (x_0 : OA) (h : H), (iter (F52_1 N call) n) (T52_1 x_0) (L52_1 x_0) h = I52_1 N call n x_0 h := by
  induction n with
  | zero => intros; exact (iter_zero _ _ _ _).trans (by kernel_rfl)
  | succ n ih =>
    intro x_0 h
    have e0 : (fun (x_0 : OA) h => (iter (F52_1 N call) n) (T52_1 x_0) (L52_1 x_0) h) = (I52_1 N call n) := by funext x_0 h; exact ih x_0 h
    have e3 : (fun (x_0 : OA) (x_9 : Bool) h => (E52_3 N call (iter (F52_1 N call) n)) (T52_3 x_0 x_9) (L52_3 x_0 x_9) h) = (C52_3 N call (I52_1 N call n)) := by
      funext x_0 x_9 h
      have q := Z52_3 N call (iter (F52_1 N call) n) x_0 x_9 h
      rw [e0] at q
      exact q
    have r := R52_1 N call (iter (F52_1 N call) n) x_0 h
    rw [e3] at r
    have g := iter_succ (F52_1 N call) n (T52_1 x_0) (L52_1 x_0) h
    have z : S52_1 call (C52_3 N call (I52_1 N call n)) x_0 h = I52_1 N call (n + 1) x_0 h := by kernel_rfl
    exact g.trans (r.trans z)
theorem Z52_1 (N : Nat) (call : CT) (x_0 : OA) (h : H) : (E52_1 N call) (T52_1 x_0) (L52_1 x_0) h = C52_1 N call x_0 h := by
  have g : (E52_1 N call) (T52_1 x_0) (L52_1 x_0) h = iter (F52_1 N call) N (T52_1 x_0) (L52_1 x_0) h := by kernel_rfl
  have z : I52_1 N call N x_0 h = C52_1 N call x_0 h := by kernel_rfl
  exact g.trans ((Q52_1 N call N x_0 h).trans z)
theorem R52_0 (N : Nat) (call : CT) (y0 : AV) (h : H) : body Tryz.prog N call Tryz.f52 A52.an [y0] h = S52_0 call (fun (x_0 : OA) h => (E52_1 N call) (T52_1 x_0) (L52_1 x_0) h) y0 h := by kernel_rfl
theorem Z52 (N : Nat) (call : CT) (y0 : AV) (h : H) : body Tryz.prog N call Tryz.f52 A52.an [y0] h = S52 N call y0 h := by
  have e1 : (fun (x_0 : OA) h => (E52_1 N call) (T52_1 x_0) (L52_1 x_0) h) = (C52_1 N call) := by
    funext x_0 h
    exact Z52_1 N call x_0 h
  have r := R52_0 N call y0 h
  rw [e1] at r
  have z : S52_0 call (C52_1 N call) y0 h = S52 N call y0 h := by kernel_rfl
  exact r.trans z
theorem V52 (N : Nat) (call : CT) (vs : List AV) (h : H) : body Tryz.prog N call Tryz.f52 A52.an vs h = row1 (fun y0 => S52 N call y0 h) vs := wrap1 (by kernel_rfl) (fun y0 => Z52 N call y0 h) vs
/- (*sibyl/sibylref2.reader).at -/
def A53.a0 : Ann := .items [.op 0]
def A53.a1 : Ann := .drawn [.op 0, .op 1, .op 2, .op 3, .op 4, .op 5, .op 6, .op 7, .op 8, .op 9, .op 10, .op 11]
def A53.a2 : Ann := .items [.op 0, .op 1, .op 2, .op 3, .op 4, .op 5]
def A53.a3 : Ann := .leaf
def A53.a4 : Ann := .two A53.a2 A53.a3
def A53.a5 : Ann := .leaf
def A53.a6 : Ann := .two A53.a4 A53.a5
def A53.a7 : Ann := .two A53.a1 A53.a6
def A53.a8 : Ann := .drawn [.op 0, .op 1, .op 2, .op 3, .op 4, .op 5, .op 6, .op 7, .op 8, .op 9, .op 10, .op 11, .op 12, .op 13]
def A53.a9 : Ann := .leaf
def A53.a10 : Ann := .two A53.a8 A53.a9
def A53.a11 : Ann := .two A53.a7 A53.a10
def A53.an : Ann := .two A53.a0 A53.a11
def S53_0 (call : CT) (y0 y1 : AV) (h : H) : R :=
  onPtr y0 (fun p1 => onInt .i64 y1 (fun i2 => onSome p1 (fun b3 o4 => ldK h b3 (o4 + 3) 1 (one (fun v5 => onInt .i64 v5 (fun i6 => onSome p1 (fun b7 o8 => ldK h b7 (o8 + 1) 1 (one (fun v9 => onSlice v9 (fun a10 n11 c12 => ifB (leI (Int.ofNat n11) (wrapF .i64 (Int.add i6 i2))) (onSome p1 (fun b13 o14 => ldK h b13 (o14 + 0) 1 (one (fun v15 => onStr v15 (fun s16 => some ((.int .i64 (Int.ofNat (s16).length)), h)))))) (onSome p1 (fun b17 o18 => ldK h b17 (o18 + 1) 1 (one (fun v19 => onSlice v19 (fun a20 n21 c22 => onSome p1 (fun b23 o24 => ldK h b23 (o24 + 3) 1 (one (fun v25 => onInt .i64 v25 (fun i26 => idxAddr 2 a20 n21 (wrapF .i64 (Int.add i26 i2)) (fun b27 o28 => ldK h b27 (o28 + 1) 1 (one (fun v29 => onInt .i64 v29 (fun i30 => some ((.int .i64 i30), h))))))))))))))))))))))))
def S53 (N : Nat) (call : CT) (y0 y1 : AV) (h : H) : R := S53_0 call y0 y1 h
theorem R53_0 (N : Nat) (call : CT) (y0 y1 : AV) (h : H) : body Tryz.prog N call Tryz.f53 A53.an [y0, y1] h = S53_0 call y0 y1 h := by kernel_rfl
theorem Z53 (N : Nat) (call : CT) (y0 y1 : AV) (h : H) : body Tryz.prog N call Tryz.f53 A53.an [y0, y1] h = S53 N call y0 y1 h := by
  have r := R53_0 N call y0 y1 h
  have z : S53_0 call y0 y1 h = S53 N call y0 y1 h := by kernel_rfl
  exact r.trans z
theorem V53 (N : Nat) (call : CT) (vs : List AV) (h : H) : body Tryz.prog N call Tryz.f53 A53.an vs h = row2 (fun y0 y1 => S53 N call y0 y1 h) vs := wrap2 (by kernel_rfl) (fun y0 y1 => Z53 N call y0 y1 h) vs
/- (*sibyl/sibylref2.reader).token -/
def A54.a0 : Ann := .items [.opL 0, .op 1]
def A54.a1 : Ann := .items [.op 0, .op 1]
def A54.a2 : Ann := .items [.op 0, .op 1]
def A54.a3 : Ann := .items [.op 0, .op 1, .op 2, .op 3, .op 4, .op 5]
def A54.a4 : Ann := .leaf
def A54.a5 : Ann := .two A54.a3 A54.a4
def A54.a6 : Ann := .items [.op 0, .op 1]
def A54.a7 : Ann := .items [.op 0, .op 1, .op 2, .op 3, .op 4, .op 5]
def A54.a8 : Ann := .leaf
def A54.a9 : Ann := .two A54.a7 A54.a8
def A54.a10 : Ann := .leaf
def A54.a11 : Ann := .two A54.a9 A54.a10
def A54.a12 : Ann := .two A54.a6 A54.a11
def A54.a13 : Ann := .two A54.a5 A54.a12
def A54.a14 : Ann := .two A54.a2 A54.a13
def A54.a15 : Ann := .one A54.a14
def A54.a16 : Ann := .two A54.a1 A54.a15
def A54.a17 : Ann := .items [.op 0, .op 1, .op 2, .op 3, .op 4, .op 5]
def A54.a18 : Ann := .leaf
def A54.a19 : Ann := .two A54.a17 A54.a18
def A54.a20 : Ann := .two A54.a16 A54.a19
def A54.an : Ann := .two A54.a0 A54.a20
def S54_0 (call : CT) (y0 : AV) (h : H) : R :=
  onPtr y0 (fun p1 => bindR (call 87 [(.ptr p1), (.int .i64 (Int.ofNat 0))] h) (fun v2 h3 => onInt .i64 v2 (fun i4 => ifB (eqI i4 (Int.ofNat 1)) (bindR (call 89 [(.ptr p1)] h3) (fun v5 h6 => onTuple v5 0 (fun v7 => onAgR v7 (fun l12 => row4 (fun x8 x9 x10 x11 => onTuple v5 1 (fun v13 => onBool v13 (fun e14 => some (.tuple [(.agg [x8, x9, x10, x11]), (.bool e14)], h6)))) l12)))) (ifB (eqI i4 (Int.ofNat 2)) (bindR (call 90 [(.ptr p1)] h3) (fun v15 h16 => onTuple v15 0 (fun v17 => onAgR v17 (fun l22 => row4 (fun x18 x19 x20 x21 => onTuple v15 1 (fun v23 => onBool v23 (fun e24 => some (.tuple [(.agg [x18, x19, x20, x21]), (.bool e24)], h16)))) l22)))) (bindR (call 91 [(.ptr p1)] h3) (fun v25 h26 => onTuple v25 0 (fun v27 => onAgR v27 (fun l32 => row4 (fun x28 x29 x30 x31 => onTuple v25 1 (fun v33 => onBool v33 (fun e34 => some (.tuple [(.agg [x28, x29, x30, x31]), (.bool e34)], h26)))) l32))))))))
def S54 (N : Nat) (call : CT) (y0 : AV) (h : H) : R := S54_0 call y0 h
theorem R54_0 (N : Nat) (call : CT) (y0 : AV) (h : H) : body Tryz.prog N call Tryz.f54 A54.an [y0] h = S54_0 call y0 h := by kernel_rfl
theorem Z54 (N : Nat) (call : CT) (y0 : AV) (h : H) : body Tryz.prog N call Tryz.f54 A54.an [y0] h = S54 N call y0 h := by
  have r := R54_0 N call y0 h
  have z : S54_0 call y0 h = S54 N call y0 h := by kernel_rfl
  exact r.trans z
theorem V54 (N : Nat) (call : CT) (vs : List AV) (h : H) : body Tryz.prog N call Tryz.f54 A54.an vs h = row1 (fun y0 => S54 N call y0 h) vs := wrap1 (by kernel_rfl) (fun y0 => Z54 N call y0 h) vs
/- (*sibyl/sibylref4.parser).next -/
def A55.a0 : Ann := .items [.opL 0]
def A55.a1 : Ann := .items [.op 0, .op 1, .opL 2, .op 3]
def A55.a2 : Ann := .items [.op 0, .op 1, .op 2, .op 3, .op 4, .op 5, .split 11, .op 6, .op 7, .op 8, .op 9]
def A55.a3 : Ann := .items [.op 0, .op 1, .op 2, .op 3, .op 4, .op 5, .op 6, .op 7]
def A55.a4 : Ann := .leaf
def A55.a5 : Ann := .two A55.a3 A55.a4
def A55.a6 : Ann := .join [0, 2, 3, 15] [2, 3] A55.a2 A55.a5
def A55.a7 : Ann := .items [.op 0, .op 1]
def A55.a8 : Ann := .leaf
def A55.a9 : Ann := .two A55.a7 A55.a8
def A55.a10 : Ann := .join [2, 3] [2, 3] A55.a6 A55.a9
def A55.a11 : Ann := .two A55.a1 A55.a10
def A55.an : Ann := .two A55.a0 A55.a11
def E55_1 (N : Nat) (call : CT) : K3 :=
  (codeK Tryz.prog N call (c2 (c2 (c2 (bodyOf Tryz.f55)))) A55.a9 (resK Tryz.prog Tryz.f55.results.toList) (fun _ _ _ _ => none) (resK Tryz.prog Tryz.f55.results.toList))
def E55_2 (N : Nat) (call : CT) : K3 :=
  (codeK Tryz.prog N call (c2 (c1 (c2 (c2 (bodyOf Tryz.f55))))) A55.a5 (fun T L h => (E55_1 N call) (keepT [2, 3] T) (keepL [2, 3] L) h) (fun _ _ _ _ => none) (resK Tryz.prog Tryz.f55.results.toList))
def S55_1 (call : CT) (l2_0 l2_1 : AV) (l2_2 l2_3 : AV) (l3_0 l3_1 : AV) (l3_2 l3_3 : AV) (h : H) : R :=
  some ((.agg [l3_0, l3_1, l3_2, l3_3]), h)
def S55_2 (call : CT) (k1 : AV → AV → AV → AV → AV → AV → AV → AV → H → R) (x_0 : OA) (x_15 : Bool) (l2_0 l2_1 : AV) (l2_2 l2_3 : AV) (l3_0 l3_1 : AV) (l3_2 l3_3 : AV) (h : H) : R :=
  ifB x_15 (onSome x_0 (fun b1 o2 => ldK h b1 (o2 + 1) 1 (one (fun v3 => onInt .i64 v3 (fun i4 => onSome x_0 (fun b5 o6 => stK h b5 (o6 + 1) [(.int .i64 (wrapF .i64 (Int.add i4 (Int.ofNat 1))))] (fun h7 => k1 l2_0 l2_1 l2_2 l2_3 l3_0 l3_1 l3_2 l3_3 h7))))))) (k1 l2_0 l2_1 l2_2 l2_3 l3_0 l3_1 l3_2 l3_3 h)
def S55_0 (call : CT) (k2 : OA → Bool → AV → AV → AV → AV → AV → AV → AV → AV → H → R) (y0 : AV) (h : H) : R :=
  onPtr y0 (fun p1 => bindR (call 34 [(.ptr p1)] h) (fun v2 h3 => onAgR v2 (fun l8 => row4 (fun x4 x5 x6 x7 => onSome p1 (fun b9 o10 => ldK h3 b9 (o10 + 2) 1 (one (fun v11 => onInt .i64 v11 (fun i12 => ifB (eqI i12 (Int.ofNat 0)) (onInt .i64 x4 (fun i13 => k2 p1 (!eqI i13 (Int.ofNat 4)) (.int .i64 (Int.ofNat 0)) (.str []) (.int .i64 (Int.ofNat 0)) (.int .i64 (Int.ofNat 0)) x4 x5 x6 x7 h3)) (k2 p1 false (.int .i64 (Int.ofNat 0)) (.str []) (.int .i64 (Int.ofNat 0)) (.int .i64 (Int.ofNat 0)) x4 x5 x6 x7 h3)))))) l8)))
def C55_1 (N : Nat) (call : CT) : AV → AV → AV → AV → AV → AV → AV → AV → H → R := S55_1 call
def C55_2 (N : Nat) (call : CT) : OA → Bool → AV → AV → AV → AV → AV → AV → AV → AV → H → R := S55_2 call (C55_1 N call)
def S55 (N : Nat) (call : CT) (y0 : AV) (h : H) : R := S55_0 call (C55_2 N call) y0 h
def T55_1 (l2_0 l2_1 : AV) (l2_2 l2_3 : AV) (l3_0 l3_1 : AV) (l3_2 l3_3 : AV) : LF := [none, none, (some (.lptr 2 0)), (some (.lptr 3 0)), oo, oo, oo, oo, oo, oo, oo, oo, oo, oo, oo, oo, oo, oo, oo, oo, oo, oo, oo, oo]
def L55_1 (l2_0 l2_1 : AV) (l2_2 l2_3 : AV) (l3_0 l3_1 : AV) (l3_2 l3_3 : AV) : LL := [none, none, (some (.cells [l2_0, l2_1, l2_2, l2_3])), (some (.cells [l3_0, l3_1, l3_2, l3_3])), oo, oo, oo, oo, oo, oo, oo, oo, oo, oo, oo, oo, oo, oo, oo, oo, oo, oo, oo, oo]
def T55_2 (x_0 : OA) (x_15 : Bool) (l2_0 l2_1 : AV) (l2_2 l2_3 : AV) (l3_0 l3_1 : AV) (l3_2 l3_3 : AV) : LF := [(some (.v (.ptr x_0))), none, (some (.lptr 2 0)), (some (.lptr 3 0)), oo, oo, oo, oo, oo, oo, oo, oo, oo, oo, oo, (some (.v (.bool x_15))), oo, oo, oo, oo, oo, oo, oo, oo]
def L55_2 (x_0 : OA) (x_15 : Bool) (l2_0 l2_1 : AV) (l2_2 l2_3 : AV) (l3_0 l3_1 : AV) (l3_2 l3_3 : AV) : LL := [none, none, (some (.cells [l2_0, l2_1, l2_2, l2_3])), (some (.cells [l3_0, l3_1, l3_2, l3_3])), oo, oo, oo, oo, oo, oo, oo, oo, oo, oo, oo, oo, oo, oo, oo, oo, oo, oo, oo, oo]
theorem R55_1 (N : Nat) (call : CT) (l2_0 l2_1 : AV) (l2_2 l2_3 : AV) (l3_0 l3_1 : AV) (l3_2 l3_3 : AV) (h : H) : E55_1 N call (T55_1 l2_0 l2_1 l2_2 l2_3 l3_0 l3_1 l3_2 l3_3) (L55_1 l2_0 l2_1 l2_2 l2_3 l3_0 l3_1 l3_2 l3_3) h = S55_1 call l2_0 l2_1 l2_2 l2_3 l3_0 l3_1 l3_2 l3_3 h := by kernel_rfl
theorem Z55_1 (N : Nat) (call : CT) (l2_0 l2_1 : AV) (l2_2 l2_3 : AV) (l3_0 l3_1 : AV) (l3_2 l3_3 : AV) (h : H) : E55_1 N call (T55_1 l2_0 l2_1 l2_2 l2_3 l3_0 l3_1 l3_2 l3_3) (L55_1 l2_0 l2_1 l2_2 l2_3 l3_0 l3_1 l3_2 l3_3) h = C55_1 N call l2_0 l2_1 l2_2 l2_3 l3_0 l3_1 l3_2 l3_3 h := by
  have r := R55_1 N call l2_0 l2_1 l2_2 l2_3 l3_0 l3_1 l3_2 l3_3 h
  have z : S55_1 call l2_0 l2_1 l2_2 l2_3 l3_0 l3_1 l3_2 l3_3 h = C55_1 N call l2_0 l2_1 l2_2 l2_3 l3_0 l3_1 l3_2 l3_3 h := by kernel_rfl
  exact r.trans z
theorem R55_2 (N : Nat) (call : CT) (x_0 : OA) (x_15 : Bool) (l2_0 l2_1 : AV) (l2_2 l2_3 : AV) (l3_0 l3_1 : AV) (l3_2 l3_3 : AV) (h : H) : E55_2 N call (T55_2 x_0 x_15 l2_0 l2_1 l2_2 l2_3 l3_0 l3_1 l3_2 l3_3) (L55_2 x_0 x_15 l2_0 l2_1 l2_2 l2_3 l3_0 l3_1 l3_2 l3_3) h = S55_2 call (fun (l2_0 l2_1 : AV) (l2_2 l2_3 : AV) (l3_0 l3_1 : AV) (l3_2 l3_3 : AV) h => (E55_1 N call) (T55_1 l2_0 l2_1 l2_2 l2_3 l3_0 l3_1 l3_2 l3_3) (L55_1 l2_0 l2_1 l2_2 l2_3 l3_0 l3_1 l3_2 l3_3) h) x_0 x_15 l2_0 l2_1 l2_2 l2_3 l3_0 l3_1 l3_2 l3_3 h := by kernel_rfl
theorem Z55_2 (N : Nat) (call : CT) (x_0 : OA) (x_15 : Bool) (l2_0 l2_1 : AV) (l2_2 l2_3 : AV) (l3_0 l3_1 : AV) (l3_2 l3_3 : AV) (h : H) : E55_2 N call (T55_2 x_0 x_15 l2_0 l2_1 l2_2 l2_3 l3_0 l3_1 l3_2 l3_3) (L55_2 x_0 x_15 l2_0 l2_1 l2_2 l2_3 l3_0 l3_1 l3_2 l3_3) h = C55_2 N call x_0 x_15 l2_0 l2_1 l2_2 l2_3 l3_0 l3_1 l3_2 l3_3 h := by
  have e1 : (fun (l2_0 l2_1 : AV) (l2_2 l2_3 : AV) (l3_0 l3_1 : AV) (l3_2 l3_3 : AV) h => (E55_1 N call) (T55_1 l2_0 l2_1 l2_2 l2_3 l3_0 l3_1 l3_2 l3_3) (L55_1 l2_0 l2_1 l2_2 l2_3 l3_0 l3_1 l3_2 l3_3) h) = (C55_1 N call) := by
    funext l2_0 l2_1 l2_2 l2_3 l3_0 l3_1 l3_2 l3_3 h
    exact Z55_1 N call l2_0 l2_1 l2_2 l2_3 l3_0 l3_1 l3_2 l3_3 h
  have r := R55_2 N call x_0 x_15 l2_0 l2_1 l2_2 l2_3 l3_0 l3_1 l3_2 l3_3 h
  rw [e1] at r
  have z : S55_2 call (C55_1 N call) x_0 x_15 l2_0 l2_1 l2_2 l2_3 l3_0 l3_1 l3_2 l3_3 h = C55_2 N call x_0 x_15 l2_0 l2_1 l2_2 l2_3 l3_0 l3_1 l3_2 l3_3 h := by kernel_rfl
  exact r.trans z
theorem R55_0 (N : Nat) (call : CT) (y0 : AV) (h : H) : body Tryz.prog N call Tryz.f55 A55.an [y0] h = S55_0 call (fun (x_0 : OA) (x_15 : Bool) (l2_0 l2_1 : AV) (l2_2 l2_3 : AV) (l3_0 l3_1 : AV) (l3_2 l3_3 : AV) h => (E55_2 N call) (T55_2 x_0 x_15 l2_0 l2_1 l2_2 l2_3 l3_0 l3_1 l3_2 l3_3) (L55_2 x_0 x_15 l2_0 l2_1 l2_2 l2_3 l3_0 l3_1 l3_2 l3_3) h) y0 h := by kernel_rfl
theorem Z55 (N : Nat) (call : CT) (y0 : AV) (h : H) : body Tryz.prog N call Tryz.f55 A55.an [y0] h = S55 N call y0 h := by
  have e2 : (fun (x_0 : OA) (x_15 : Bool) (l2_0 l2_1 : AV) (l2_2 l2_3 : AV) (l3_0 l3_1 : AV) (l3_2 l3_3 : AV) h => (E55_2 N call) (T55_2 x_0 x_15 l2_0 l2_1 l2_2 l2_3 l3_0 l3_1 l3_2 l3_3) (L55_2 x_0 x_15 l2_0 l2_1 l2_2 l2_3 l3_0 l3_1 l3_2 l3_3) h) = (C55_2 N call) := by
    funext x_0 x_15 l2_0 l2_1 l2_2 l2_3 l3_0 l3_1 l3_2 l3_3 h
    exact Z55_2 N call x_0 x_15 l2_0 l2_1 l2_2 l2_3 l3_0 l3_1 l3_2 l3_3 h
  have r := R55_0 N call y0 h
  rw [e2] at r
  have z : S55_0 call (C55_2 N call) y0 h = S55 N call y0 h := by kernel_rfl
  exact r.trans z
theorem V55 (N : Nat) (call : CT) (vs : List AV) (h : H) : body Tryz.prog N call Tryz.f55 A55.an vs h = row1 (fun y0 => S55 N call y0 h) vs := wrap1 (by kernel_rfl) (fun y0 => Z55 N call y0 h) vs
/- (*sibyl/sibylref4.parser).name -/
def A56.a0 : Ann := .items [.opL 0]
def A56.a1 : Ann := .items [.op 0, .op 1, .op 2, .op 3]
def A56.a2 : Ann := .items [.op 0, .op 1, .op 2, .op 3, .op 4]
def A56.a3 : Ann := .items [.op 0, .op 1]
def A56.a4 : Ann := .leaf
def A56.a5 : Ann := .two A56.a3 A56.a4
def A56.a6 : Ann := .two A56.a2 A56.a5
def A56.a7 : Ann := .leaf
def A56.a8 : Ann := .two A56.a6 A56.a7
def A56.a9 : Ann := .two A56.a1 A56.a8
def A56.a10 : Ann := .items [.op 0, .op 1, .op 2]
def A56.a11 : Ann := .leaf
def A56.a12 : Ann := .two A56.a10 A56.a11
def A56.a13 : Ann := .two A56.a9 A56.a12
def A56.an : Ann := .two A56.a0 A56.a13
def S56_0 (call : CT) (y0 : AV) (h : H) : R :=
  onPtr y0 (fun p1 => bindR (call 34 [(.ptr p1)] h) (fun v2 h3 => onAgR v2 (fun l8 => row4 (fun x4 x5 x6 x7 => onInt .i64 x4 (fun i9 => ifB (!eqI i9 (Int.ofNat 1)) (bindR (call 34 [(.ptr p1)] h3) (fun v10 h11 => onAgR v10 (fun l16 => row4 (fun x12 x13 x14 x15 => onInt .i64 x15 (fun i17 => bindR (call 35 [(.ptr p1), (.int .i64 i17), (.int .i64 (Int.ofNat 2))] h11) (fun v18 h19 => some ((.agg [(.int .i64 (Int.ofNat 0)), (.str []), (.int .i64 (Int.ofNat 0)), (.int .i64 (Int.ofNat 0))]), h19)))) l16))) (bindR (call 55 [(.ptr p1)] h3) (fun v20 h21 => onAgR v20 (fun l26 => row4 (fun x22 x23 x24 x25 => some ((.agg [x22, x23, x24, x25]), h21)) l26))))) l8)))
def S56 (N : Nat) (call : CT) (y0 : AV) (h : H) : R := S56_0 call y0 h
theorem R56_0 (N : Nat) (call : CT) (y0 : AV) (h : H) : body Tryz.prog N call Tryz.f56 A56.an [y0] h = S56_0 call y0 h := by kernel_rfl
theorem Z56 (N : Nat) (call : CT) (y0 : AV) (h : H) : body Tryz.prog N call Tryz.f56 A56.an [y0] h = S56 N call y0 h := by
  have r := R56_0 N call y0 h
  have z : S56_0 call y0 h = S56 N call y0 h := by kernel_rfl
  exact r.trans z
theorem V56 (N : Nat) (call : CT) (vs : List AV) (h : H) : body Tryz.prog N call Tryz.f56 A56.an vs h = row1 (fun y0 => S56 N call y0 h) vs := wrap1 (by kernel_rfl) (fun y0 => Z56 N call y0 h) vs
/- (*sibyl/sibylref4.parser).params -/
def A57.a0 : Ann := .items [.op 0]
def A57.a1 : Ann := .items [.op 0]
def A57.a2 : Ann := .items [.op 0, .op 1]
def A57.a3 : Ann := .items [.op 0, .op 1]
def A57.a4 : Ann := .leaf
def A57.a5 : Ann := .two A57.a3 A57.a4
def A57.a6 : Ann := .leaf
def A57.a7 : Ann := .two A57.a5 A57.a6
def A57.a8 : Ann := .two A57.a2 A57.a7
def A57.a9 : Ann := .items [.op 0, .op 1, .op 2, .op 3, .op 4]
def A57.a10 : Ann := .leaf
def A57.a11 : Ann := .leaf
def A57.a12 : Ann := .two A57.a10 A57.a11
def A57.a13 : Ann := .two A57.a9 A57.a12
def A57.a14 : Ann := .items [.op 0, .op 1, .op 2]
def A57.a15 : Ann := .items [.op 0, .op 1]
def A57.a16 : Ann := .items [.op 0, .op 1, .op 2, .op 3, .op 4]
def A57.a17 : Ann := .leaf
def A57.a18 : Ann := .two A57.a16 A57.a17
def A57.a19 : Ann := .two A57.a15 A57.a18
def A57.a20 : Ann := .items [.op 0, .op 1]
def A57.a21 : Ann := .items [.op 0, .op 1, .op 2]
def A57.a22 : Ann := .items [.op 0, .op 1, .op 2, .op 3, .op 4]
def A57.a23 : Ann := .leaf
def A57.a24 : Ann := .two A57.a22 A57.a23
def A57.a25 : Ann := .two A57.a21 A57.a24
def A57.a26 : Ann := .items [.op 0, .op 1, .opL 2, .op 3]
def A57.a27 : Ann := .items [.op 0, .op 1, .op 2, .op 3, .op 4, .op 5, .op 6, .opL 7, .op 8, .op 9]
def A57.a28 : Ann := .items [.op 0, .op 1, .op 2]
def A57.a29 : Ann := .items [.op 0, .op 1]
def A57.a30 : Ann := .items [.op 0, .op 1]
def A57.a31 : Ann := .leaf
def A57.a32 : Ann := .two A57.a30 A57.a31
def A57.a33 : Ann := .two A57.a29 A57.a32
def A57.a34 : Ann := .leaf
def A57.a35 : Ann := .two A57.a33 A57.a34
def A57.a36 : Ann := .two A57.a28 A57.a35
def A57.a37 : Ann := .two A57.a27 A57.a36
def A57.a38 : Ann := .two A57.a26 A57.a37
def A57.a39 : Ann := .join [0, 3, 4] [] A57.a25 A57.a38
def A57.a40 : Ann := .two A57.a20 A57.a39
def A57.a41 : Ann := .join [0, 3, 4] [] A57.a19 A57.a40
def A57.a42 : Ann := .two A57.a14 A57.a41
def A57.a43 : Ann := .one A57.a42
def A57.a44 : Ann := .two A57.a13 A57.a43
def A57.a45 : Ann := .meet [0, 3] [] A57.a44
def A57.a46 : Ann := .one A57.a45
def A57.a47 : Ann := .items [.op 0, .op 1]
def A57.a48 : Ann := .leaf
def A57.a49 : Ann := .two A57.a47 A57.a48
def A57.a50 : Ann := .two A57.a46 A57.a49
def A57.a51 : Ann := .two A57.a8 A57.a50
def A57.a52 : Ann := .two A57.a1 A57.a51
def A57.an : Ann := .two A57.a0 A57.a52
def F57_1 (N : Nat) (call : CT) (self : K3) : K3 :=
  (codeK Tryz.prog N call (c1 (c1 (c1 (c2 (c2 (c2 (bodyOf Tryz.f57))))))) A57.a44 (fun T L h => self (keepT [0, 3] T) (keepL [] L) h) (fun i T L h => match Nat.beq i 0 with | true => (codeK Tryz.prog N call (c2 (c2 (c2 (c2 (bodyOf Tryz.f57))))) A57.a49 (resK Tryz.prog Tryz.f57.results.toList) (fun _ _ _ _ => none) (resK Tryz.prog Tryz.f57.results.toList)) T L h | false => (fun _ _ _ _ => none) i T L h) (resK Tryz.prog Tryz.f57.results.toList))
def E57_1 (N : Nat) (call : CT) : K3 := iter (F57_1 N call) N
def E57_2 (N : Nat) (call : CT) (D1 : K3) : K3 :=
  (codeK Tryz.prog N call (c2 (c2 (c1 (c2 (c1 (c1 (c1 (c2 (c2 (c2 (bodyOf Tryz.f57))))))))))) A57.a40 (fun T L h => D1 (keepT [0, 3] T) (keepL [] L) h) (fun i T L h => match Nat.beq i 1 with | true => (fun T L h => D1 (keepT [0, 3] T) (keepL [] L) h) T L h | false => (fun i T L h => match Nat.beq i 0 with | true => (codeK Tryz.prog N call (c2 (c2 (c2 (c2 (bodyOf Tryz.f57))))) A57.a49 (resK Tryz.prog Tryz.f57.results.toList) (fun _ _ _ _ => none) (resK Tryz.prog Tryz.f57.results.toList)) T L h | false => (fun _ _ _ _ => none) i T L h) i T L h) (resK Tryz.prog Tryz.f57.results.toList))
def E57_3 (N : Nat) (call : CT) (D1 : K3) : K3 :=
  (codeK Tryz.prog N call (c2 (c2 (c2 (c2 (c1 (c2 (c1 (c1 (c1 (c2 (c2 (c2 (bodyOf Tryz.f57))))))))))))) A57.a38 (fun T L h => D1 (keepT [0, 3] T) (keepL [] L) h) (fun i T L h => match Nat.beq i 1 with | true => (fun T L h => D1 (keepT [0, 3] T) (keepL [] L) h) T L h | false => (fun i T L h => match Nat.beq i 0 with | true => (codeK Tryz.prog N call (c2 (c2 (c2 (c2 (bodyOf Tryz.f57))))) A57.a49 (resK Tryz.prog Tryz.f57.results.toList) (fun _ _ _ _ => none) (resK Tryz.prog Tryz.f57.results.toList)) T L h | false => (fun _ _ _ _ => none) i T L h) i T L h) (resK Tryz.prog Tryz.f57.results.toList))
def S57_1 (call : CT) (k2 : OA → OA → Nat → Option Nat → Int → H → R) (x_0 a_3 : OA) (n_3 : Nat) (c_3 : Option Nat) (h : H) : R :=
  onSome x_0 (fun b1 o2 => ldK h b1 (o2 + 2) 1 (one (fun v3 => onInt .i64 v3 (fun i4 => ifB (eqI i4 (Int.ofNat 0)) (bindR (call 29 [(.ptr x_0), (.str [118, 97, 114])] h) (fun v5 h6 => onInt .i64 v5 (fun i7 => ifB (ltI i7 (Int.ofNat 0)) (bindR (call 34 [(.ptr x_0)] h6) (fun v8 h9 => onAgR v8 (fun l14 => row4 (fun x10 x11 x12 x13 => onInt .i64 x13 (fun i15 => bindR (call 35 [(.ptr x_0), (.int .i64 i15), (.int .i64 (Int.ofNat 2))] h9) (fun v16 h17 => k2 x_0 a_3 n_3 c_3 i7 h17))) l14))) (k2 x_0 a_3 n_3 c_3 i7 h6)))) (some ((.slice a_3 n_3 c_3), h))))))
def S57_2 (call : CT) (k3 : OA → OA → Nat → Option Nat → Int → H → R) (x_0 a_3 : OA) (n_3 : Nat) (c_3 : Option Nat) (x_4 : Int) (h : H) : R :=
  bindR (call 55 [(.ptr x_0)] h) (fun v1 h2 => onAgR v1 (fun l7 => row4 (fun x3 x4 x5 x6 => ifB (eqI (Int.ofNat n_3) (Int.ofNat 6)) (bindR (call 34 [(.ptr x_0)] h2) (fun v8 h9 => onAgR v8 (fun l14 => row4 (fun x10 x11 x12 x13 => onInt .i64 x13 (fun i15 => bindR (call 35 [(.ptr x_0), (.int .i64 i15), (.int .i64 (Int.ofNat 2))] h9) (fun v16 h17 => k3 x_0 a_3 n_3 c_3 x_4 h17))) l14))) (k3 x_0 a_3 n_3 c_3 x_4 h2)) l7))
def S57_3 (call : CT) (k1 : OA → OA → Nat → Option Nat → H → R) (x_0 a_3 : OA) (n_3 : Nat) (c_3 : Option Nat) (x_4 : Int) (h : H) : R :=
  bindR (call 56 [(.ptr x_0)] h) (fun v1 h2 => onAgR v1 (fun l7 => row4 (fun x3 x4 x5 x6 => onStr x4 (fun s8 => onInt .i64 x6 (fun i9 => appL h2 3 a_3 n_3 c_3 1 [(.str s8), (.int .i64 x_4), (.int .i64 i9)] (fun a10 n11 c12 h13 => bindR (call 58 [(.ptr x_0), (.str [44])] h13) (fun v14 h15 => onBool v14 (fun e16 => ifB (!e16) (bindR (call 33 [(.ptr x_0), (.str [41])] h15) (fun v17 h18 => some ((.slice a10 n11 c12), h18))) (k1 x_0 a10 n11 c12 h15))))))) l7))
def S57_0 (call : CT) (k1 : OA → OA → Nat → Option Nat → H → R) (y0 : AV) (h : H) : R :=
  onPtr y0 (fun p1 => bindR (call 58 [(.ptr p1), (.str [41])] h) (fun v2 h3 => onBool v2 (fun e4 => ifB e4 (some ((.slice none 0 (some 0)), h3)) (k1 p1 none 0 (some 0) h3))))
def C57_3 (N : Nat) (call : CT) (k1 : OA → OA → Nat → Option Nat → H → R) : OA → OA → Nat → Option Nat → Int → H → R := S57_3 call k1
def C57_2 (N : Nat) (call : CT) (k1 : OA → OA → Nat → Option Nat → H → R) : OA → OA → Nat → Option Nat → Int → H → R := S57_2 call (C57_3 N call k1)
def B57_1 (N : Nat) (call : CT) (ih : OA → OA → Nat → Option Nat → H → R) : OA → OA → Nat → Option Nat → H → R := S57_1 call (C57_2 N call ih)
def I57_1 (N : Nat) (call : CT) (n : Nat) : OA → OA → Nat → Option Nat → H → R := Nat.rec (motive := fun _ => OA → OA → Nat → Option Nat → H → R) (fun _ _ _ _ _ => none) (fun _ ih => B57_1 N call ih) n
def C57_1 (N : Nat) (call : CT) : OA → OA → Nat → Option Nat → H → R := I57_1 N call N
def S57 (N : Nat) (call : CT) (y0 : AV) (h : H) : R := S57_0 call (C57_1 N call) y0 h
def T57_1 (x_0 a_3 : OA) (n_3 : Nat) (c_3 : Option Nat) : LF := [(some (.v (.ptr x_0))), none, none, (some (.v (.slice a_3 n_3 c_3))), oo, oo, oo, oo, oo, oo, oo, oo, oo, oo, oo, oo, oo, oo, oo, oo, oo, oo, oo, oo, oo, oo, oo, oo, oo, oo, oo, oo, oo, oo, oo, oo, oo, oo, oo, oo, oo, oo, oo, oo, oo, oo, oo, oo, oo, oo, oo]
def L57_1 (x_0 a_3 : OA) (n_3 : Nat) (c_3 : Option Nat) : LL := [oo, oo, oo, oo, oo, oo, oo, oo, oo, oo, oo, oo, oo, oo, oo, oo, oo, oo, oo, oo, oo, oo, oo, oo, oo, oo, oo, oo, oo, oo, oo, oo, oo, oo, oo, oo, oo, oo, oo, oo, oo, oo, oo, oo, oo, oo, oo, oo, oo, oo, oo]
def T57_2 (x_0 a_3 : OA) (n_3 : Nat) (c_3 : Option Nat) (x_4 : Int) : LF := [(some (.v (.ptr x_0))), none, none, (some (.v (.slice a_3 n_3 c_3))), (some (.v (.int .i64 x_4))), oo, oo, oo, oo, oo, oo, oo, oo, oo, oo, oo, oo, oo, oo, oo, oo, oo, oo, oo, oo, oo, oo, oo, oo, oo, oo, oo, oo, oo, oo, oo, oo, oo, oo, oo, oo, oo, oo, oo, oo, oo, oo, oo, oo, oo, oo]
def L57_2 (x_0 a_3 : OA) (n_3 : Nat) (c_3 : Option Nat) (x_4 : Int) : LL := [oo, oo, oo, oo, oo, oo, oo, oo, oo, oo, oo, oo, oo, oo, oo, oo, oo, oo, oo, oo, oo, oo, oo, oo, oo, oo, oo, oo, oo, oo, oo, oo, oo, oo, oo, oo, oo, oo, oo, oo, oo, oo, oo, oo, oo, oo, oo, oo, oo, oo, oo]
def T57_3 (x_0 a_3 : OA) (n_3 : Nat) (c_3 : Option Nat) (x_4 : Int) : LF := [(some (.v (.ptr x_0))), none, none, (some (.v (.slice a_3 n_3 c_3))), (some (.v (.int .i64 x_4))), oo, oo, oo, oo, oo, oo, oo, oo, oo, oo, oo, oo, oo, oo, oo, oo, oo, oo, oo, oo, oo, oo, oo, oo, oo, oo, oo, oo, oo, oo, oo, oo, oo, oo, oo, oo, oo, oo, oo, oo, oo, oo, oo, oo, oo, oo]
def L57_3 (x_0 a_3 : OA) (n_3 : Nat) (c_3 : Option Nat) (x_4 : Int) : LL := [oo, oo, oo, oo, oo, oo, oo, oo, oo, oo, oo, oo, oo, oo, oo, oo, oo, oo, oo, oo, oo, oo, oo, oo, oo, oo, oo, oo, oo, oo, oo, oo, oo, oo, oo, oo, oo, oo, oo, oo, oo, oo, oo, oo, oo, oo, oo, oo, oo, oo, oo]
theorem W57_3 (N : Nat) (call : CT) (D1 : K3) : E57_3 N call D1 = (codeK Tryz.prog N call (c1 (c2 (c2 (c2 (c2 (c1 (c2 (c1 (c1 (c1 (c2 (c2 (c2 (bodyOf Tryz.f57)))))))))))))) A57.a26 (codeK Tryz.prog N call (c1 (c2 (c2 (c2 (c2 (c2 (c1 (c2 (c1 (c1 (c1 (c2 (c2 (c2 (bodyOf Tryz.f57))))))))))))))) A57.a27 (codeK Tryz.prog N call (c1 (c2 (c2 (c2 (c2 (c2 (c2 (c1 (c2 (c1 (c1 (c1 (c2 (c2 (c2 (bodyOf Tryz.f57)))))))))))))))) A57.a28 (codeK Tryz.prog N call (c2 (c2 (c2 (c2 (c2 (c2 (c2 (c1 (c2 (c1 (c1 (c1 (c2 (c2 (c2 (bodyOf Tryz.f57)))))))))))))))) A57.a35 (fun T L h => D1 (keepT [0, 3] T) (keepL [] L) h) (fun i T L h => match Nat.beq i 1 with | true => (fun T L h => D1 (keepT [0, 3] T) (keepL [] L) h) T L h | false => (fun i T L h => match Nat.beq i 0 with | true => (codeK Tryz.prog N call (c1 (c2 (c2 (c2 (c2 (bodyOf Tryz.f57)))))) A57.a47 (codeK Tryz.prog N call (c2 (c2 (c2 (c2 (c2 (bodyOf Tryz.f57)))))) A57.a48 (resK Tryz.prog Tryz.f57.results.toList) (fun _ _ _ _ => none) (resK Tryz.prog Tryz.f57.results.toList)) (fun _ _ _ _ => none) (resK Tryz.prog Tryz.f57.results.toList)) T L h | false => (fun _ _ _ _ => none) i T L h) i T L h) (resK Tryz.prog Tryz.f57.results.toList)) (fun i T L h => match Nat.beq i 1 with | true => (fun T L h => D1 (keepT [0, 3] T) (keepL [] L) h) T L h | false => (fun i T L h => match Nat.beq i 0 with | true => (codeK Tryz.prog N call (c1 (c2 (c2 (c2 (c2 (bodyOf Tryz.f57)))))) A57.a47 (codeK Tryz.prog N call (c2 (c2 (c2 (c2 (c2 (bodyOf Tryz.f57)))))) A57.a48 (resK Tryz.prog Tryz.f57.results.toList) (fun _ _ _ _ => none) (resK Tryz.prog Tryz.f57.results.toList)) (fun _ _ _ _ => none) (resK Tryz.prog Tryz.f57.results.toList)) T L h | false => (fun _ _ _ _ => none) i T L h) i T L h) (resK Tryz.prog Tryz.f57.results.toList)) (fun i T L h => match Nat.beq i 1 with | true => (fun T L h => D1 (keepT [0, 3] T) (keepL [] L) h) T L h | false => (fun i T L h => match Nat.beq i 0 with | true => (codeK Tryz.prog N call (c1 (c2 (c2 (c2 (c2 (bodyOf Tryz.f57)))))) A57.a47 (codeK Tryz.prog N call (c2 (c2 (c2 (c2 (c2 (bodyOf Tryz.f57)))))) A57.a48 (resK Tryz.prog Tryz.f57.results.toList) (fun _ _ _ _ => none) (resK Tryz.prog Tryz.f57.results.toList)) (fun _ _ _ _ => none) (resK Tryz.prog Tryz.f57.results.toList)) T L h | false => (fun _ _ _ _ => none) i T L h) i T L h) (resK Tryz.prog Tryz.f57.results.toList)) (fun i T L h => match Nat.beq i 1 with | true => (fun T L h => D1 (keepT [0, 3] T) (keepL [] L) h) T L h | false => (fun i T L h => match Nat.beq i 0 with | true => (codeK Tryz.prog N call (c1 (c2 (c2 (c2 (c2 (bodyOf Tryz.f57)))))) A57.a47 (codeK Tryz.prog N call (c2 (c2 (c2 (c2 (c2 (bodyOf Tryz.f57)))))) A57.a48 (resK Tryz.prog Tryz.f57.results.toList) (fun _ _ _ _ => none) (resK Tryz.prog Tryz.f57.results.toList)) (fun _ _ _ _ => none) (resK Tryz.prog Tryz.f57.results.toList)) T L h | false => (fun _ _ _ _ => none) i T L h) i T L h) (resK Tryz.prog Tryz.f57.results.toList)) := by kernel_rfl
theorem P57_3 (N : Nat) (call : CT) (D1 : K3) (x_0 a_3 : OA) (n_3 : Nat) (c_3 : Option Nat) (x_4 : Int) (h : H) : (codeK Tryz.prog N call (c1 (c2 (c2 (c2 (c2 (c1 (c2 (c1 (c1 (c1 (c2 (c2 (c2 (bodyOf Tryz.f57)))))))))))))) A57.a26 (codeK Tryz.prog N call (c1 (c2 (c2 (c2 (c2 (c2 (c1 (c2 (c1 (c1 (c1 (c2 (c2 (c2 (bodyOf Tryz.f57))))))))))))))) A57.a27 (codeK Tryz.prog N call (c1 (c2 (c2 (c2 (c2 (c2 (c2 (c1 (c2 (c1 (c1 (c1 (c2 (c2 (c2 (bodyOf Tryz.f57)))))))))))))))) A57.a28 (codeK Tryz.prog N call (c2 (c2 (c2 (c2 (c2 (c2 (c2 (c1 (c2 (c1 (c1 (c1 (c2 (c2 (c2 (bodyOf Tryz.f57)))))))))))))))) A57.a35 (fun T L h => D1 (keepT [0, 3] T) (keepL [] L) h) (fun i T L h => match Nat.beq i 1 with | true => (fun T L h => D1 (keepT [0, 3] T) (keepL [] L) h) T L h | false => (fun i T L h => match Nat.beq i 0 with | true => (codeK Tryz.prog N call (c1 (c2 (c2 (c2 (c2 (bodyOf Tryz.f57)))))) A57.a47 (codeK Tryz.prog N call (c2 (c2 (c2 (c2 (c2 (bodyOf Tryz.f57)))))) A57.a48 (resK Tryz.prog Tryz.f57.results.toList) (fun _ _ _ _ => none) (resK Tryz.prog Tryz.f57.results.toList)) (fun _ _ _ _ => none) (resK Tryz.prog Tryz.f57.results.toList)) T L h | false => (fun _ _ _ _ => none) i T L h) i T L h) (resK Tryz.prog Tryz.f57.results.toList)) (fun i T L h => match Nat.beq i 1 with | true => (fun T L h => D1 (keepT [0, 3] T) (keepL [] L) h) T L h | false => (fun i T L h => match Nat.beq i 0 with | true => (codeK Tryz.prog N call (c1 (c2 (c2 (c2 (c2 (bodyOf Tryz.f57)))))) A57.a47 (codeK Tryz.prog N call (c2 (c2 (c2 (c2 (c2 (bodyOf Tryz.f57)))))) A57.a48 (resK Tryz.prog Tryz.f57.results.toList) (fun _ _ _ _ => none) (resK Tryz.prog Tryz.f57.results.toList)) (fun _ _ _ _ => none) (resK Tryz.prog Tryz.f57.results.toList)) T L h | false => (fun _ _ _ _ => none) i T L h) i T L h) (resK Tryz.prog Tryz.f57.results.toList)) (fun i T L h => match Nat.beq i 1 with | true => (fun T L h => D1 (keepT [0, 3] T) (keepL [] L) h) T L h | false => (fun i T L h => match Nat.beq i 0 with | true => (codeK Tryz.prog N call (c1 (c2 (c2 (c2 (c2 (bodyOf Tryz.f57)))))) A57.a47 (codeK Tryz.prog N call (c2 (c2 (c2 (c2 (c2 (bodyOf Tryz.f57)))))) A57.a48 (resK Tryz.prog Tryz.f57.results.toList) (fun _ _ _ _ => none) (resK Tryz.prog Tryz.f57.results.toList)) (fun _ _ _ _ => none) (resK Tryz.prog Tryz.f57.results.toList)) T L h | false => (fun _ _ _ _ => none) i T L h) i T L h) (resK Tryz.prog Tryz.f57.results.toList)) (fun i T L h => match Nat.beq i 1 with | true => (fun T L h => D1 (keepT [0, 3] T) (keepL [] L) h) T L h | false => (fun i T L h => match Nat.beq i 0 with | true => (codeK Tryz.prog N call (c1 (c2 (c2 (c2 (c2 (bodyOf Tryz.f57)))))) A57.a47 (codeK Tryz.prog N call (c2 (c2 (c2 (c2 (c2 (bodyOf Tryz.f57)))))) A57.a48 (resK Tryz.prog Tryz.f57.results.toList) (fun _ _ _ _ => none) (resK Tryz.prog Tryz.f57.results.toList)) (fun _ _ _ _ => none) (resK Tryz.prog Tryz.f57.results.toList)) T L h | false => (fun _ _ _ _ => none) i T L h) i T L h) (resK Tryz.prog Tryz.f57.results.toList)) (T57_3 x_0 a_3 n_3 c_3 x_4) (L57_3 x_0 a_3 n_3 c_3 x_4) h = S57_3 call (fun (x_0 a_3 : OA) (n_3 : Nat) (c_3 : Option Nat) h => D1 (T57_1 x_0 a_3 n_3 c_3) (L57_1 x_0 a_3 n_3 c_3) h) x_0 a_3 n_3 c_3 x_4 h := by kernel_rfl
theorem R57_3 (N : Nat) (call : CT) (D1 : K3) (x_0 a_3 : OA) (n_3 : Nat) (c_3 : Option Nat) (x_4 : Int) (h : H) : E57_3 N call D1 (T57_3 x_0 a_3 n_3 c_3 x_4) (L57_3 x_0 a_3 n_3 c_3 x_4) h = S57_3 call (fun (x_0 a_3 : OA) (n_3 : Nat) (c_3 : Option Nat) h => D1 (T57_1 x_0 a_3 n_3 c_3) (L57_1 x_0 a_3 n_3 c_3) h) x_0 a_3 n_3 c_3 x_4 h := (congrFun (congrFun (congrFun (W57_3 N call D1) _) _) _).trans (P57_3 N call D1 x_0 a_3 n_3 c_3 x_4 h)
theorem Z57_3 (N : Nat) (call : CT) (D1 : K3) (x_0 a_3 : OA) (n_3 : Nat) (c_3 : Option Nat) (x_4 : Int) (h : H) : E57_3 N call D1 (T57_3 x_0 a_3 n_3 c_3 x_4) (L57_3 x_0 a_3 n_3 c_3 x_4) h = C57_3 N call (fun (x_0 a_3 : OA) (n_3 : Nat) (c_3 : Option Nat) h => D1 (T57_1 x_0 a_3 n_3 c_3) (L57_1 x_0 a_3 n_3 c_3) h) x_0 a_3 n_3 c_3 x_4 h := by
  have r := R57_3 N call D1 x_0 a_3 n_3 c_3 x_4 h
  have z : S57_3 call (fun (x_0 a_3 : OA) (n_3 : Nat) (c_3 : Option Nat) h => D1 (T57_1 x_0 a_3 n_3 c_3) (L57_1 x_0 a_3 n_3 c_3) h) x_0 a_3 n_3 c_3 x_4 h = C57_3 N call (fun (x_0 a_3 : OA) (n_3 : Nat) (c_3 : Option Nat) h => D1 (T57_1 x_0 a_3 n_3 c_3) (L57_1 x_0 a_3 n_3 c_3) h) x_0 a_3 n_3 c_3 x_4 h := by kernel_rfl
  exact r.trans z
theorem W57_2 (N : Nat) (call : CT) (D1 : K3) : E57_2 N call D1 = (codeK Tryz.prog N call (c1 (c2 (c2 (c1 (c2 (c1 (c1 (c1 (c2 (c2 (c2 (bodyOf Tryz.f57)))))))))))) A57.a20 (codeK Tryz.prog N call (c1 (c1 (c2 (c2 (c2 (c1 (c2 (c1 (c1 (c1 (c2 (c2 (c2 (bodyOf Tryz.f57)))))))))))))) A57.a21 (codeK Tryz.prog N call (c2 (c1 (c2 (c2 (c2 (c1 (c2 (c1 (c1 (c1 (c2 (c2 (c2 (bodyOf Tryz.f57)))))))))))))) A57.a24 (fun T L h => (E57_3 N call D1) (keepT [0, 3, 4] T) (keepL [] L) h) (fun i T L h => match Nat.beq i 1 with | true => (fun T L h => D1 (keepT [0, 3] T) (keepL [] L) h) T L h | false => (fun i T L h => match Nat.beq i 0 with | true => (codeK Tryz.prog N call (c1 (c2 (c2 (c2 (c2 (bodyOf Tryz.f57)))))) A57.a47 (codeK Tryz.prog N call (c2 (c2 (c2 (c2 (c2 (bodyOf Tryz.f57)))))) A57.a48 (resK Tryz.prog Tryz.f57.results.toList) (fun _ _ _ _ => none) (resK Tryz.prog Tryz.f57.results.toList)) (fun _ _ _ _ => none) (resK Tryz.prog Tryz.f57.results.toList)) T L h | false => (fun _ _ _ _ => none) i T L h) i T L h) (resK Tryz.prog Tryz.f57.results.toList)) (fun i T L h => match Nat.beq i 1 with | true => (fun T L h => D1 (keepT [0, 3] T) (keepL [] L) h) T L h | false => (fun i T L h => match Nat.beq i 0 with | true => (codeK Tryz.prog N call (c1 (c2 (c2 (c2 (c2 (bodyOf Tryz.f57)))))) A57.a47 (codeK Tryz.prog N call (c2 (c2 (c2 (c2 (c2 (bodyOf Tryz.f57)))))) A57.a48 (resK Tryz.prog Tryz.f57.results.toList) (fun _ _ _ _ => none) (resK Tryz.prog Tryz.f57.results.toList)) (fun _ _ _ _ => none) (resK Tryz.prog Tryz.f57.results.toList)) T L h | false => (fun _ _ _ _ => none) i T L h) i T L h) (resK Tryz.prog Tryz.f57.results.toList)) (fun i T L h => match Nat.beq i 1 with | true => (fun T L h => D1 (keepT [0, 3] T) (keepL [] L) h) T L h | false => (fun i T L h => match Nat.beq i 0 with | true => (codeK Tryz.prog N call (c1 (c2 (c2 (c2 (c2 (bodyOf Tryz.f57)))))) A57.a47 (codeK Tryz.prog N call (c2 (c2 (c2 (c2 (c2 (bodyOf Tryz.f57)))))) A57.a48 (resK Tryz.prog Tryz.f57.results.toList) (fun _ _ _ _ => none) (resK Tryz.prog Tryz.f57.results.toList)) (fun _ _ _ _ => none) (resK Tryz.prog Tryz.f57.results.toList)) T L h | false => (fun _ _ _ _ => none) i T L h) i T L h) (resK Tryz.prog Tryz.f57.results.toList)) := by kernel_rfl
theorem P57_2 (N : Nat) (call : CT) (D1 : K3) (J3 : K3) (x_0 a_3 : OA) (n_3 : Nat) (c_3 : Option Nat) (x_4 : Int) (h : H) : (codeK Tryz.prog N call (c1 (c2 (c2 (c1 (c2 (c1 (c1 (c1 (c2 (c2 (c2 (bodyOf Tryz.f57)))))))))))) A57.a20 (codeK Tryz.prog N call (c1 (c1 (c2 (c2 (c2 (c1 (c2 (c1 (c1 (c1 (c2 (c2 (c2 (bodyOf Tryz.f57)))))))))))))) A57.a21 (codeK Tryz.prog N call (c2 (c1 (c2 (c2 (c2 (c1 (c2 (c1 (c1 (c1 (c2 (c2 (c2 (bodyOf Tryz.f57)))))))))))))) A57.a24 (fun T L h => J3 (keepT [0, 3, 4] T) (keepL [] L) h) (fun i T L h => match Nat.beq i 1 with | true => (fun T L h => D1 (keepT [0, 3] T) (keepL [] L) h) T L h | false => (fun i T L h => match Nat.beq i 0 with | true => (codeK Tryz.prog N call (c1 (c2 (c2 (c2 (c2 (bodyOf Tryz.f57)))))) A57.a47 (codeK Tryz.prog N call (c2 (c2 (c2 (c2 (c2 (bodyOf Tryz.f57)))))) A57.a48 (resK Tryz.prog Tryz.f57.results.toList) (fun _ _ _ _ => none) (resK Tryz.prog Tryz.f57.results.toList)) (fun _ _ _ _ => none) (resK Tryz.prog Tryz.f57.results.toList)) T L h | false => (fun _ _ _ _ => none) i T L h) i T L h) (resK Tryz.prog Tryz.f57.results.toList)) (fun i T L h => match Nat.beq i 1 with | true => (fun T L h => D1 (keepT [0, 3] T) (keepL [] L) h) T L h | false => (fun i T L h => match Nat.beq i 0 with | true => (codeK Tryz.prog N call (c1 (c2 (c2 (c2 (c2 (bodyOf Tryz.f57)))))) A57.a47 (codeK Tryz.prog N call (c2 (c2 (c2 (c2 (c2 (bodyOf Tryz.f57)))))) A57.a48 (resK Tryz.prog Tryz.f57.results.toList) (fun _ _ _ _ => none) (resK Tryz.prog Tryz.f57.results.toList)) (fun _ _ _ _ => none) (resK Tryz.prog Tryz.f57.results.toList)) T L h | false => (fun _ _ _ _ => none) i T L h) i T L h) (resK Tryz.prog Tryz.f57.results.toList)) (fun i T L h => match Nat.beq i 1 with | true => (fun T L h => D1 (keepT [0, 3] T) (keepL [] L) h) T L h | false => (fun i T L h => match Nat.beq i 0 with | true => (codeK Tryz.prog N call (c1 (c2 (c2 (c2 (c2 (bodyOf Tryz.f57)))))) A57.a47 (codeK Tryz.prog N call (c2 (c2 (c2 (c2 (c2 (bodyOf Tryz.f57)))))) A57.a48 (resK Tryz.prog Tryz.f57.results.toList) (fun _ _ _ _ => none) (resK Tryz.prog Tryz.f57.results.toList)) (fun _ _ _ _ => none) (resK Tryz.prog Tryz.f57.results.toList)) T L h | false => (fun _ _ _ _ => none) i T L h) i T L h) (resK Tryz.prog Tryz.f57.results.toList)) (T57_2 x_0 a_3 n_3 c_3 x_4) (L57_2 x_0 a_3 n_3 c_3 x_4) h = S57_2 call (fun (x_0 a_3 : OA) (n_3 : Nat) (c_3 : Option Nat) (x_4 : Int) h => J3 (T57_3 x_0 a_3 n_3 c_3 x_4) (L57_3 x_0 a_3 n_3 c_3 x_4) h) x_0 a_3 n_3 c_3 x_4 h := by kernel_rfl
theorem R57_2 (N : Nat) (call : CT) (D1 : K3) (x_0 a_3 : OA) (n_3 : Nat) (c_3 : Option Nat) (x_4 : Int) (h : H) : E57_2 N call D1 (T57_2 x_0 a_3 n_3 c_3 x_4) (L57_2 x_0 a_3 n_3 c_3 x_4) h = S57_2 call (fun (x_0 a_3 : OA) (n_3 : Nat) (c_3 : Option Nat) (x_4 : Int) h => (E57_3 N call D1) (T57_3 x_0 a_3 n_3 c_3 x_4) (L57_3 x_0 a_3 n_3 c_3 x_4) h) x_0 a_3 n_3 c_3 x_4 h := (congrFun (congrFun (congrFun (W57_2 N call D1) _) _) _).trans (P57_2 N call D1 (E57_3 N call D1) x_0 a_3 n_3 c_3 x_4 h)
theorem Z57_2 (N : Nat) (call : CT) (D1 : K3) (x_0 a_3 : OA) (n_3 : Nat) (c_3 : Option Nat) (x_4 : Int) (h : H) : E57_2 N call D1 (T57_2 x_0 a_3 n_3 c_3 x_4) (L57_2 x_0 a_3 n_3 c_3 x_4) h = C57_2 N call (fun (x_0 a_3 : OA) (n_3 : Nat) (c_3 : Option Nat) h => D1 (T57_1 x_0 a_3 n_3 c_3) (L57_1 x_0 a_3 n_3 c_3) h) x_0 a_3 n_3 c_3 x_4 h := by
  have e3 : (fun (x_0 a_3 : OA) (n_3 : Nat) (c_3 : Option Nat) (x_4 : Int) h => (E57_3 N call D1) (T57_3 x_0 a_3 n_3 c_3 x_4) (L57_3 x_0 a_3 n_3 c_3 x_4) h) = (C57_3 N call (fun (x_0 a_3 : OA) (n_3 : Nat) (c_3 : Option Nat) h => D1 (T57_1 x_0 a_3 n_3 c_3) (L57_1 x_0 a_3 n_3 c_3) h)) := by
    funext x_0 a_3 n_3 c_3 x_4 h
    exact Z57_3 N call D1 x_0 a_3 n_3 c_3 x_4 h
  have r := R57_2 N call D1 x_0 a_3 n_3 c_3 x_4 h
  rw [e3] at r
  have z : S57_2 call (C57_3 N call (fun (x_0 a_3 : OA) (n_3 : Nat) (c_3 : Option Nat) h => D1 (T57_1 x_0 a_3 n_3 c_3) (L57_1 x_0 a_3 n_3 c_3) h)) x_0 a_3 n_3 c_3 x_4 h = C57_2 N call (fun (x_0 a_3 : OA) (n_3 : Nat) (c_3 : Option Nat) h => D1 (T57_1 x_0 a_3 n_3 c_3) (L57_1 x_0 a_3 n_3 c_3) h) x_0 a_3 n_3 c_3 x_4 h := by kernel_rfl
  exact r.trans z
theorem W57_1 (N : Nat) (call : CT) (self : K3) : F57_1 N call self = (codeK Tryz.prog N call (c1 (c1 (c1 (c1 (c1 (c2 (c2 (c2 (bodyOf Tryz.f57))))))))) A57.a9 (codeK Tryz.prog N call (c2 (c1 (c1 (c1 (c1 (c2 (c2 (c2 (bodyOf Tryz.f57))))))))) A57.a12 (codeK Tryz.prog N call (c1 (c1 (c2 (c1 (c1 (c1 (c2 (c2 (c2 (bodyOf Tryz.f57)))))))))) A57.a14 (codeK Tryz.prog N call (c1 (c1 (c2 (c1 (c2 (c1 (c1 (c1 (c2 (c2 (c2 (bodyOf Tryz.f57)))))))))))) A57.a15 (codeK Tryz.prog N call (c2 (c1 (c2 (c1 (c2 (c1 (c1 (c1 (c2 (c2 (c2 (bodyOf Tryz.f57)))))))))))) A57.a18 (fun T L h => (E57_2 N call self) (keepT [0, 3, 4] T) (keepL [] L) h) (fun i T L h => match Nat.beq i 1 with | true => (fun T L h => self (keepT [0, 3] T) (keepL [] L) h) T L h | false => (fun i T L h => match Nat.beq i 0 with | true => (codeK Tryz.prog N call (c1 (c2 (c2 (c2 (c2 (bodyOf Tryz.f57)))))) A57.a47 (codeK Tryz.prog N call (c2 (c2 (c2 (c2 (c2 (bodyOf Tryz.f57)))))) A57.a48 (resK Tryz.prog Tryz.f57.results.toList) (fun _ _ _ _ => none) (resK Tryz.prog Tryz.f57.results.toList)) (fun _ _ _ _ => none) (resK Tryz.prog Tryz.f57.results.toList)) T L h | false => (fun _ _ _ _ => none) i T L h) i T L h) (resK Tryz.prog Tryz.f57.results.toList)) (fun i T L h => match Nat.beq i 1 with | true => (fun T L h => self (keepT [0, 3] T) (keepL [] L) h) T L h | false => (fun i T L h => match Nat.beq i 0 with | true => (codeK Tryz.prog N call (c1 (c2 (c2 (c2 (c2 (bodyOf Tryz.f57)))))) A57.a47 (codeK Tryz.prog N call (c2 (c2 (c2 (c2 (c2 (bodyOf Tryz.f57)))))) A57.a48 (resK Tryz.prog Tryz.f57.results.toList) (fun _ _ _ _ => none) (resK Tryz.prog Tryz.f57.results.toList)) (fun _ _ _ _ => none) (resK Tryz.prog Tryz.f57.results.toList)) T L h | false => (fun _ _ _ _ => none) i T L h) i T L h) (resK Tryz.prog Tryz.f57.results.toList)) (fun i T L h => match Nat.beq i 1 with | true => (fun T L h => self (keepT [0, 3] T) (keepL [] L) h) T L h | false => (fun i T L h => match Nat.beq i 0 with | true => (codeK Tryz.prog N call (c1 (c2 (c2 (c2 (c2 (bodyOf Tryz.f57)))))) A57.a47 (codeK Tryz.prog N call (c2 (c2 (c2 (c2 (c2 (bodyOf Tryz.f57)))))) A57.a48 (resK Tryz.prog Tryz.f57.results.toList) (fun _ _ _ _ => none) (resK Tryz.prog Tryz.f57.results.toList)) (fun _ _ _ _ => none) (resK Tryz.prog Tryz.f57.results.toList)) T L h | false => (fun _ _ _ _ => none) i T L h) i T L h) (resK Tryz.prog Tryz.f57.results.toList)) (fun i T L h => match Nat.beq i 0 with | true => (codeK Tryz.prog N call (c1 (c2 (c2 (c2 (c2 (bodyOf Tryz.f57)))))) A57.a47 (codeK Tryz.prog N call (c2 (c2 (c2 (c2 (c2 (bodyOf Tryz.f57)))))) A57.a48 (resK Tryz.prog Tryz.f57.results.toList) (fun _ _ _ _ => none) (resK Tryz.prog Tryz.f57.results.toList)) (fun _ _ _ _ => none) (resK Tryz.prog Tryz.f57.results.toList)) T L h | false => (fun _ _ _ _ => none) i T L h) (resK Tryz.prog Tryz.f57.results.toList)) (fun i T L h => match Nat.beq i 0 with | true => (codeK Tryz.prog N call (c1 (c2 (c2 (c2 (c2 (bodyOf Tryz.f57)))))) A57.a47 (codeK Tryz.prog N call (c2 (c2 (c2 (c2 (c2 (bodyOf Tryz.f57)))))) A57.a48 (resK Tryz.prog Tryz.f57.results.toList) (fun _ _ _ _ => none) (resK Tryz.prog Tryz.f57.results.toList)) (fun _ _ _ _ => none) (resK Tryz.prog Tryz.f57.results.toList)) T L h | false => (fun _ _ _ _ => none) i T L h) (resK Tryz.prog Tryz.f57.results.toList)) := by kernel_rfl
theorem P57_1 (N : Nat) (call : CT) (self : K3) (J2 : K3) (x_0 a_3 : OA) (n_3 : Nat) (c_3 : Option Nat) (h : H) : (codeK Tryz.prog N call (c1 (c1 (c1 (c1 (c1 (c2 (c2 (c2 (bodyOf Tryz.f57))))))))) A57.a9 (codeK Tryz.prog N call (c2 (c1 (c1 (c1 (c1 (c2 (c2 (c2 (bodyOf Tryz.f57))))))))) A57.a12 (codeK Tryz.prog N call (c1 (c1 (c2 (c1 (c1 (c1 (c2 (c2 (c2 (bodyOf Tryz.f57)))))))))) A57.a14 (codeK Tryz.prog N call (c1 (c1 (c2 (c1 (c2 (c1 (c1 (c1 (c2 (c2 (c2 (bodyOf Tryz.f57)))))))))))) A57.a15 (codeK Tryz.prog N call (c2 (c1 (c2 (c1 (c2 (c1 (c1 (c1 (c2 (c2 (c2 (bodyOf Tryz.f57)))))))))))) A57.a18 (fun T L h => J2 (keepT [0, 3, 4] T) (keepL [] L) h) (fun i T L h => match Nat.beq i 1 with | true => (fun T L h => self (keepT [0, 3] T) (keepL [] L) h) T L h | false => (fun i T L h => match Nat.beq i 0 with | true => (codeK Tryz.prog N call (c1 (c2 (c2 (c2 (c2 (bodyOf Tryz.f57)))))) A57.a47 (codeK Tryz.prog N call (c2 (c2 (c2 (c2 (c2 (bodyOf Tryz.f57)))))) A57.a48 (resK Tryz.prog Tryz.f57.results.toList) (fun _ _ _ _ => none) (resK Tryz.prog Tryz.f57.results.toList)) (fun _ _ _ _ => none) (resK Tryz.prog Tryz.f57.results.toList)) T L h | false => (fun _ _ _ _ => none) i T L h) i T L h) (resK Tryz.prog Tryz.f57.results.toList)) (fun i T L h => match Nat.beq i 1 with | true => (fun T L h => self (keepT [0, 3] T) (keepL [] L) h) T L h | false => (fun i T L h => match Nat.beq i 0 with | true => (codeK Tryz.prog N call (c1 (c2 (c2 (c2 (c2 (bodyOf Tryz.f57)))))) A57.a47 (codeK Tryz.prog N call (c2 (c2 (c2 (c2 (c2 (bodyOf Tryz.f57)))))) A57.a48 (resK Tryz.prog Tryz.f57.results.toList) (fun _ _ _ _ => none) (resK Tryz.prog Tryz.f57.results.toList)) (fun _ _ _ _ => none) (resK Tryz.prog Tryz.f57.results.toList)) T L h | false => (fun _ _ _ _ => none) i T L h) i T L h) (resK Tryz.prog Tryz.f57.results.toList)) (fun i T L h => match Nat.beq i 1 with | true => (fun T L h => self (keepT [0, 3] T) (keepL [] L) h) T L h | false => (fun i T L h => match Nat.beq i 0 with | true => (codeK Tryz.prog N call (c1 (c2 (c2 (c2 (c2 (bodyOf Tryz.f57)))))) A57.a47 (codeK Tryz.prog N call (c2 (c2 (c2 (c2 (c2 (bodyOf Tryz.f57)))))) A57.a48 (resK Tryz.prog Tryz.f57.results.toList) (fun _ _ _ _ => none) (resK Tryz.prog Tryz.f57.results.toList)) (fun _ _ _ _ => none) (resK Tryz.prog Tryz.f57.results.toList)) T L h | false => (fun _ _ _ _ => none) i T L h) i T L h) (resK Tryz.prog Tryz.f57.results.toList)) (fun i T L h => match Nat.beq i 0 with | true => (codeK Tryz.prog N call (c1 (c2 (c2 (c2 (c2 (bodyOf Tryz.f57)))))) A57.a47 (codeK Tryz.prog N call (c2 (c2 (c2 (c2 (c2 (bodyOf Tryz.f57)))))) A57.a48 (resK Tryz.prog Tryz.f57.results.toList) (fun _ _ _ _ => none) (resK Tryz.prog Tryz.f57.results.toList)) (fun _ _ _ _ => none) (resK Tryz.prog Tryz.f57.results.toList)) T L h | false => (fun _ _ _ _ => none) i T L h) (resK Tryz.prog Tryz.f57.results.toList)) (fun i T L h => match Nat.beq i 0 with | true => (codeK Tryz.prog N call (c1 (c2 (c2 (c2 (c2 (bodyOf Tryz.f57)))))) A57.a47 (codeK Tryz.prog N call (c2 (c2 (c2 (c2 (c2 (bodyOf Tryz.f57)))))) A57.a48 (resK Tryz.prog Tryz.f57.results.toList) (fun _ _ _ _ => none) (resK Tryz.prog Tryz.f57.results.toList)) (fun _ _ _ _ => none) (resK Tryz.prog Tryz.f57.results.toList)) T L h | false => (fun _ _ _ _ => none) i T L h) (resK Tryz.prog Tryz.f57.results.toList)) (T57_1 x_0 a_3 n_3 c_3) (L57_1 x_0 a_3 n_3 c_3) h = S57_1 call (fun (x_0 a_3 : OA) (n_3 : Nat) (c_3 : Option Nat) (x_4 : Int) h => J2 (T57_2 x_0 a_3 n_3 c_3 x_4) (L57_2 x_0 a_3 n_3 c_3 x_4) h) x_0 a_3 n_3 c_3 h := by kernel_rfl
theorem R57_1 (N : Nat) (call : CT) (self : K3) (x_0 a_3 : OA) (n_3 : Nat) (c_3 : Option Nat) (h : H) : F57_1 N call self (T57_1 x_0 a_3 n_3 c_3) (L57_1 x_0 a_3 n_3 c_3) h = S57_1 call (fun (x_0 a_3 : OA) (n_3 : Nat) (c_3 : Option Nat) (x_4 : Int) h => (E57_2 N call self) (T57_2 x_0 a_3 n_3 c_3 x_4) (L57_2 x_0 a_3 n_3 c_3 x_4) h) x_0 a_3 n_3 c_3 h := (congrFun (congrFun (congrFun (W57_1 N call self) _) _) _).trans (P57_1 N call self (E57_2 N call self) x_0 a_3 n_3 c_3 h)
theorem Q57_1 (N : Nat) (call : CT) (n : Nat) : ∀ (x_0 a_3 : OA) (n_3 : Nat) (c_3 : Option Nat) (h : H), (iter (F57_1 N call) n) (T57_1 x_0 a_3 n_3 c_3) (L57_1 x_0 a_3 n_3 c_3) h = I57_1 N call n x_0 a_3 n_3 c_3 h := by
  induction n with
  | zero => intros; exact (iter_zero _ _ _ _).trans (by kernel_rfl)
  | succ n ih =>
    intro x_0 a_3 n_3 c_3 h
    have e0 : (fun (x_0 a_3 : OA) (n_3 : Nat) (c_3 : Option Nat) h => (iter (F57_1 N call) n) (T57_1 x_0 a_3 n_3 c_3) (L57_1 x_0 a_3 n_3 c_3) h) = (I57_1 N call n) := by funext x_0 a_3 n_3 c_3 h; exact ih x_0 a_3 n_3 c_3 h
    have e2 : (fun (x_0 a_3 : OA) (n_3 : Nat) (c_3 : Option Nat) (x_4 : Int) h => (E57_2 N call (iter (F57_1 N call) n)) (T57_2 x_0 a_3 n_3 c_3 x_4) (L57_2 x_0 a_3 n_3 c_3 x_4) h) = (C57_2 N call (I57_1 N call n)) := by
      funext x_0 a_3 n_3 c_3 x_4 h
      have q := Z57_2 N call (iter (F57_1 N call) n) x_0 a_3 n_3 c_3 x_4 h
      rw [e0] at q
      exact q
    have r := R57_1 N call (iter (F57_1 N call) n) x_0 a_3 n_3 c_3 h
    rw [e2] at r
    have g := iter_succ (F57_1 N call) n (T57_1 x_0 a_3 n_3 c_3) (L57_1 x_0 a_3 n_3 c_3) h
    have z : S57_1 call (C57_2 N call (I57_1 N call n)) x_0 a_3 n_3 c_3 h = I57_1 N call (n + 1) x_0 a_3 n_3 c_3 h := by kernel_rfl
    exact g.trans (r.trans z)
theorem Z57_1 (N : Nat) (call : CT) (x_0 a_3 : OA) (n_3 : Nat) (c_3 : Option Nat) (h : H) : (E57_1 N call) (T57_1 x_0 a_3 n_3 c_3) (L57_1 x_0 a_3 n_3 c_3) h = C57_1 N call x_0 a_3 n_3 c_3 h := by
  have g : (E57_1 N call) (T57_1 x_0 a_3 n_3 c_3) (L57_1 x_0 a_3 n_3 c_3) h = iter (F57_1 N call) N (T57_1 x_0 a_3 n_3 c_3) (L57_1 x_0 a_3 n_3 c_3) h := by kernel_rfl
  have z : I57_1 N call N x_0 a_3 n_3 c_3 h = C57_1 N call x_0 a_3 n_3 c_3 h := by kernel_rfl
  exact g.trans ((Q57_1 N call N x_0 a_3 n_3 c_3 h).trans z)
theorem W57_0 (N : Nat) (call : CT) : codeK Tryz.prog N call (bodyOf Tryz.f57) A57.an (resK Tryz.prog Tryz.f57.results.toList) (fun _ _ _ _ => none) (resK Tryz.prog Tryz.f57.results.toList) = (codeK Tryz.prog N call (c1 (bodyOf Tryz.f57)) A57.a0 (codeK Tryz.prog N call (c1 (c2 (bodyOf Tryz.f57))) A57.a1 (codeK Tryz.prog N call (c1 (c1 (c2 (c2 (bodyOf Tryz.f57))))) A57.a2 (codeK Tryz.prog N call (c2 (c1 (c2 (c2 (bodyOf Tryz.f57))))) A57.a7 (fun T L h => (E57_1 N call) (keepT [0, 3] T) (keepL [] L) h) (fun _ _ _ _ => none) (resK Tryz.prog Tryz.f57.results.toList)) (fun _ _ _ _ => none) (resK Tryz.prog Tryz.f57.results.toList)) (fun _ _ _ _ => none) (resK Tryz.prog Tryz.f57.results.toList)) (fun _ _ _ _ => none) (resK Tryz.prog Tryz.f57.results.toList)) := by kernel_rfl
theorem P57_0 (N : Nat) (call : CT) (J1 : K3) (y0 : AV) (h : H) : bodyK Tryz.prog Tryz.f57 (codeK Tryz.prog N call (c1 (bodyOf Tryz.f57)) A57.a0 (codeK Tryz.prog N call (c1 (c2 (bodyOf Tryz.f57))) A57.a1 (codeK Tryz.prog N call (c1 (c1 (c2 (c2 (bodyOf Tryz.f57))))) A57.a2 (codeK Tryz.prog N call (c2 (c1 (c2 (c2 (bodyOf Tryz.f57))))) A57.a7 (fun T L h => J1 (keepT [0, 3] T) (keepL [] L) h) (fun _ _ _ _ => none) (resK Tryz.prog Tryz.f57.results.toList)) (fun _ _ _ _ => none) (resK Tryz.prog Tryz.f57.results.toList)) (fun _ _ _ _ => none) (resK Tryz.prog Tryz.f57.results.toList)) (fun _ _ _ _ => none) (resK Tryz.prog Tryz.f57.results.toList)) [y0] h = S57_0 call (fun (x_0 a_3 : OA) (n_3 : Nat) (c_3 : Option Nat) h => J1 (T57_1 x_0 a_3 n_3 c_3) (L57_1 x_0 a_3 n_3 c_3) h) y0 h := by kernel_rfl
theorem R57_0 (N : Nat) (call : CT) (y0 : AV) (h : H) : body Tryz.prog N call Tryz.f57 A57.an [y0] h = S57_0 call (fun (x_0 a_3 : OA) (n_3 : Nat) (c_3 : Option Nat) h => (E57_1 N call) (T57_1 x_0 a_3 n_3 c_3) (L57_1 x_0 a_3 n_3 c_3) h) y0 h := (body_eq Tryz.prog N call Tryz.f57 A57.an [y0] h (W57_0 N call)).trans (P57_0 N call (E57_1 N call) y0 h)
theorem Z57 (N : Nat) (call : CT) (y0 : AV) (h : H) : body Tryz.prog N call Tryz.f57 A57.an [y0] h = S57 N call y0 h := by
  have e1 : (fun (x_0 a_3 : OA) (n_3 : Nat) (c_3 : Option Nat) h => (E57_1 N call) (T57_1 x_0 a_3 n_3 c_3) (L57_1 x_0 a_3 n_3 c_3) h) = (C57_1 N call) := by
    funext x_0 a_3 n_3 c_3 h
    exact Z57_1 N call x_0 a_3 n_3 c_3 h
  have r := R57_0 N call y0 h
  rw [e1] at r
  have z : S57_0 call (C57_1 N call) y0 h = S57 N call y0 h := by kernel_rfl
  exact r.trans z
theorem V57 (N : Nat) (call : CT) (vs : List AV) (h : H) : body Tryz.prog N call Tryz.f57 A57.an vs h = row1 (fun y0 => S57 N call y0 h) vs := wrap1 (by kernel_rfl) (fun y0 => Z57 N call y0 h) vs
/- (*sibyl/sibylref4.parser).take -/
def A58.a0 : Ann := .items [.op 0]
def A58.a1 : Ann := .items [.op 0, .op 1, .op 2, .op 3]
def A58.a2 : Ann := .items [.op 0]
def A58.a3 : Ann := .leaf
def A58.a4 : Ann := .two A58.a2 A58.a3
def A58.a5 : Ann := .leaf
def A58.a6 : Ann := .two A58.a4 A58.a5
def A58.a7 : Ann := .two A58.a1 A58.a6
def A58.a8 : Ann := .items [.op 0, .op 1]
def A58.a9 : Ann := .items [.op 0]
def A58.a10 : Ann := .leaf
def A58.a11 : Ann := .two A58.a9 A58.a10
def A58.a12 : Ann := .two A58.a8 A58.a11
def A58.a13 : Ann := .two A58.a7 A58.a12
def A58.an : Ann := .two A58.a0 A58.a13
def S58_0 (call : CT) (y0 y1 : AV) (h : H) : R :=
  onPtr y0 (fun p1 => onStr y1 (fun s2 => bindR (call 28 [(.ptr p1), (.str s2)] h) (fun v3 h4 => onBool v3 (fun e5 => ifB (!e5) (some ((.bool false), h4)) (bindR (call 55 [(.ptr p1)] h4) (fun v6 h7 => onAgR v6 (fun l12 => row4 (fun x8 x9 x10 x11 => some ((.bool true), h7)) l12)))))))
def S58 (N : Nat) (call : CT) (y0 y1 : AV) (h : H) : R := S58_0 call y0 y1 h
theorem R58_0 (N : Nat) (call : CT) (y0 y1 : AV) (h : H) : body Tryz.prog N call Tryz.f58 A58.an [y0, y1] h = S58_0 call y0 y1 h := by kernel_rfl
theorem Z58 (N : Nat) (call : CT) (y0 y1 : AV) (h : H) : body Tryz.prog N call Tryz.f58 A58.an [y0, y1] h = S58 N call y0 y1 h := by
  have r := R58_0 N call y0 y1 h
  have z : S58_0 call y0 y1 h = S58 N call y0 y1 h := by kernel_rfl
  exact r.trans z
theorem V58 (N : Nat) (call : CT) (vs : List AV) (h : H) : body Tryz.prog N call Tryz.f58 A58.an vs h = row2 (fun y0 y1 => S58 N call y0 y1 h) vs := wrap2 (by kernel_rfl) (fun y0 y1 => Z58 N call y0 y1 h) vs
/- (*sibyl/sibylref4.parser).enter -/
def A59.a0 : Ann := .items [.op 0]
def A59.a1 : Ann := .items [.op 0, .op 1]
def A59.a2 : Ann := .items [.op 0, .op 1, .op 2, .op 3, .op 4]
def A59.a3 : Ann := .leaf
def A59.a4 : Ann := .two A59.a2 A59.a3
def A59.a5 : Ann := .two A59.a1 A59.a4
def A59.a6 : Ann := .items [.op 0, .op 1, .op 2, .op 3, .op 4, .op 5]
def A59.a7 : Ann := .leaf
def A59.a8 : Ann := .two A59.a6 A59.a7
def A59.a9 : Ann := .join [0] [] A59.a5 A59.a8
def A59.an : Ann := .two A59.a0 A59.a9
def E59_1 (N : Nat) (call : CT) : K3 :=
  (codeK Tryz.prog N call (c2 (c2 (bodyOf Tryz.f59))) A59.a8 (resK Tryz.prog Tryz.f59.results.toList) (fun _ _ _ _ => none) (resK Tryz.prog Tryz.f59.results.toList))
def S59_1 (call : CT) (x_0 : OA) (h : H) : R :=
  onSome x_0 (fun b1 o2 => ldK h b1 (o2 + 2) 1 (one (fun v3 => onInt .i64 v3 (fun i4 => some ((.bool (eqI i4 (Int.ofNat 0))), h)))))
def S59_0 (call : CT) (k1 : OA → H → R) (y0 y1 : AV) (h : H) : R :=
  onPtr y0 (fun p1 => onInt .i64 y1 (fun i2 => ifB (leI (Int.ofNat 30) i2) (bindR (call 34 [(.ptr p1)] h) (fun v3 h4 => onAgR v3 (fun l9 => row4 (fun x5 x6 x7 x8 => onInt .i64 x8 (fun i10 => bindR (call 35 [(.ptr p1), (.int .i64 i10), (.int .i64 (Int.ofNat 4))] h4) (fun v11 h12 => k1 p1 h12))) l9))) (k1 p1 h)))
def C59_1 (N : Nat) (call : CT) : OA → H → R := S59_1 call
def S59 (N : Nat) (call : CT) (y0 y1 : AV) (h : H) : R := S59_0 call (C59_1 N call) y0 y1 h
def T59_1 (x_0 : OA) : LF := [(some (.v (.ptr x_0))), oo, oo, oo, oo, oo, oo, oo, oo, oo, oo, oo, oo, oo, oo, oo, oo]
def L59_1 (x_0 : OA) : LL := [oo, oo, oo, oo, oo, oo, oo, oo, oo, oo, oo, oo, oo, oo, oo, oo, oo]
theorem R59_1 (N : Nat) (call : CT) (x_0 : OA) (h : H) : E59_1 N call (T59_1 x_0) (L59_1 x_0) h = S59_1 call x_0 h := by kernel_rfl
theorem Z59_1 (N : Nat) (call : CT) (x_0 : OA) (h : H) : E59_1 N call (T59_1 x_0) (L59_1 x_0) h = C59_1 N call x_0 h := by
  have r := R59_1 N call x_0 h
  have z : S59_1 call x_0 h = C59_1 N call x_0 h := by kernel_rfl
  exact r.trans z
theorem R59_0 (N : Nat) (call : CT) (y0 y1 : AV) (h : H) : body Tryz.prog N call Tryz.f59 A59.an [y0, y1] h = S59_0 call (fun (x_0 : OA) h => (E59_1 N call) (T59_1 x_0) (L59_1 x_0) h) y0 y1 h := by kernel_rfl
theorem Z59 (N : Nat) (call : CT) (y0 y1 : AV) (h : H) : body Tryz.prog N call Tryz.f59 A59.an [y0, y1] h = S59 N call y0 y1 h := by
  have e1 : (fun (x_0 : OA) h => (E59_1 N call) (T59_1 x_0) (L59_1 x_0) h) = (C59_1 N call) := by
    funext x_0 h
    exact Z59_1 N call x_0 h
  have r := R59_0 N call y0 y1 h
  rw [e1] at r
  have z : S59_0 call (C59_1 N call) y0 y1 h = S59 N call y0 y1 h := by kernel_rfl
  exact r.trans z
theorem V59 (N : Nat) (call : CT) (vs : List AV) (h : H) : body Tryz.prog N call Tryz.f59 A59.an vs h = row2 (fun y0 y1 => S59 N call y0 y1 h) vs := wrap2 (by kernel_rfl) (fun y0 y1 => Z59 N call y0 y1 h) vs
/- (*sibyl/sibylref4.parser).imp -/
def A60.a0 : Ann := .items [.opL 0]
def A60.a1 : Ann := .items [.op 0, .op 1, .op 2, .opL 3, .op 4]
def A60.a2 : Ann := .items [.op 0, .op 1, .op 2]
def A60.a3 : Ann := .items [.op 0, .op 1]
def A60.a4 : Ann := .leaf
def A60.a5 : Ann := .two A60.a3 A60.a4
def A60.a6 : Ann := .leaf
def A60.a7 : Ann := .two A60.a5 A60.a6
def A60.a8 : Ann := .two A60.a2 A60.a7
def A60.a9 : Ann := .items [.op 0, .op 1, .opL 2, .op 3]
def A60.a10 : Ann := .drawn [.op 3, .op 4, .op 5, .op 2, .op 6, .op 0, .op 1, .op 7, .op 8]
def A60.a11 : Ann := .leaf
def A60.a12 : Ann := .two A60.a10 A60.a11
def A60.a13 : Ann := .two A60.a9 A60.a12
def A60.a14 : Ann := .two A60.a8 A60.a13
def A60.a15 : Ann := .two A60.a1 A60.a14
def A60.an : Ann := .two A60.a0 A60.a15
def S60_0 (call : CT) (y0 y1 : AV) (h : H) : R :=
  onPtr y0 (fun p1 => onInt .i64 y1 (fun i2 => bindR (call 92 [(.ptr p1), (.int .i64 i2)] h) (fun v3 h4 => onAgR v3 (fun l10 => row5 (fun x5 x6 x7 x8 x9 => bindR (call 28 [(.ptr p1), (.str [61, 62])] h4) (fun v11 h12 => onBool v11 (fun e13 => ifB (!e13) (some ((.agg [x5, x6, x7, x8, x9]), h12)) (bindR (call 55 [(.ptr p1)] h12) (fun v14 h15 => onAgR v14 (fun l20 => row4 (fun x16 x17 x18 x19 => bindR (call 60 [(.ptr p1), (.int .i64 i2)] h15) (fun v21 h22 => onAgR v21 (fun l28 => row5 (fun x23 x24 x25 x26 x27 => guardB (sameAV (.agg [x5, x6, x7, x8, x9]) (.agg [x5, x6, x7, x8, x9])) (newK h22 [x5, x6, x7, x8, x9, x23, x24, x25, x26, x27] (fun b29 h30 => guardB (sameAV x19 x19) (guardB (sameAV x19 x19) (onInt .i64 x19 (fun i31 => some ((.agg [(.str [105, 109, 112]), (.str []), (.int .i64 (Int.ofNat 0)), (.int .i64 i31), (.slice (some (b29, 0)) 2 (some 2))]), h30))))))) l28))) l20)))))) l10))))
def S60 (N : Nat) (call : CT) (y0 y1 : AV) (h : H) : R := S60_0 call y0 y1 h
theorem R60_0 (N : Nat) (call : CT) (y0 y1 : AV) (h : H) : body Tryz.prog N call Tryz.f60 A60.an [y0, y1] h = S60_0 call y0 y1 h := by kernel_rfl
theorem Z60 (N : Nat) (call : CT) (y0 y1 : AV) (h : H) : body Tryz.prog N call Tryz.f60 A60.an [y0, y1] h = S60 N call y0 y1 h := by
  have r := R60_0 N call y0 y1 h
  have z : S60_0 call y0 y1 h = S60 N call y0 y1 h := by kernel_rfl
  exact r.trans z
theorem V60 (N : Nat) (call : CT) (vs : List AV) (h : H) : body Tryz.prog N call Tryz.f60 A60.an vs h = row2 (fun y0 y1 => S60 N call y0 y1 h) vs := wrap2 (by kernel_rfl) (fun y0 y1 => Z60 N call y0 y1 h) vs
/- slices.ContainsFunc[[]sibyl/api.Decl,sibyl/api.Decl] -/
def A72.a0 : Ann := .items [.op 0]
def A72.a1 : Ann := .items [.op 0, .op 1, .op 2, .op 3, .op 4]
def A72.a2 : Ann := .leaf
def A72.a3 : Ann := .two A72.a1 A72.a2
def A72.an : Ann := .two A72.a0 A72.a3
def S72_0 (call : CT) (y0 y1 : AV) (h : H) : R :=
  onSlice y0 (fun a1 n2 c3 => bindR (call 99 [(.slice a1 n2 c3), y1] h) (fun v4 h5 => onInt .i64 v4 (fun i6 => some ((.bool (leI (Int.ofNat 0) i6)), h5))))
def S72 (N : Nat) (call : CT) (y0 y1 : AV) (h : H) : R := S72_0 call y0 y1 h
theorem R72_0 (N : Nat) (call : CT) (y0 y1 : AV) (h : H) : body Tryz.prog N call Tryz.f72 A72.an [y0, y1] h = S72_0 call y0 y1 h := by kernel_rfl
theorem Z72 (N : Nat) (call : CT) (y0 y1 : AV) (h : H) : body Tryz.prog N call Tryz.f72 A72.an [y0, y1] h = S72 N call y0 y1 h := by
  have r := R72_0 N call y0 y1 h
  have z : S72_0 call y0 y1 h = S72 N call y0 y1 h := by kernel_rfl
  exact r.trans z
theorem V72 (N : Nat) (call : CT) (vs : List AV) (h : H) : body Tryz.prog N call Tryz.f72 A72.an vs h = row2 (fun y0 y1 => S72 N call y0 y1 h) vs := wrap2 (by kernel_rfl) (fun y0 y1 => Z72 N call y0 y1 h) vs
/- sibyl/tree.areDecls$1 -/
def A73.a0 : Ann := .items [.opL 0, .op 1]
def A73.a1 : Ann := .items [.op 0, .op 1, .op 2, .op 3]
def A73.a2 : Ann := .leaf
def A73.a3 : Ann := .two A73.a1 A73.a2
def A73.an : Ann := .two A73.a0 A73.a3
def S73_0 (call : CT) (y0 : AV) (h : H) : R :=
  onAgR y0 (fun l4 => row3 (fun x1 x2 x3 => bindR (call 74 [(.agg [x1, x2, x3])] h) (fun v5 h6 => onBool v5 (fun e7 => some ((.bool (!e7)), h6)))) l4)
def S73 (N : Nat) (call : CT) (y0 : AV) (h : H) : R := S73_0 call y0 h
theorem R73_0 (N : Nat) (call : CT) (y0 : AV) (h : H) : body Tryz.prog N call Tryz.f73 A73.an [y0] h = S73_0 call y0 h := by kernel_rfl
theorem Z73 (N : Nat) (call : CT) (y0 : AV) (h : H) : body Tryz.prog N call Tryz.f73 A73.an [y0] h = S73 N call y0 h := by
  have r := R73_0 N call y0 h
  have z : S73_0 call y0 h = S73 N call y0 h := by kernel_rfl
  exact r.trans z
theorem V73 (N : Nat) (call : CT) (vs : List AV) (h : H) : body Tryz.prog N call Tryz.f73 A73.an vs h = row1 (fun y0 => S73 N call y0 h) vs := wrap1 (by kernel_rfl) (fun y0 => Z73 N call y0 h) vs
/- sibyl/tree.isDecl -/
def A74.a0 : Ann := .items [.opL 0, .op 1]
def A74.a1 : Ann := .items [.op 0, .op 1, .op 2, .op 3, .split 6, .op 4, .op 5, .op 6, .op 7, .op 8, .split 11, .op 9, .op 10, .op 11, .op 12, .op 13]
def A74.a2 : Ann := .leaf
def A74.a3 : Ann := .two A74.a1 A74.a2
def A74.an : Ann := .two A74.a0 A74.a3
def S74_0 (call : CT) (y0 : AV) (h : H) : R :=
  onAgR y0 (fun l4 => row3 (fun x1 x2 x3 => onStr x1 (fun s5 => bindR (call 76 [(.str s5)] h) (fun v6 h7 => onBool v6 (fun e8 => ifB e8 (onInt .i64 x2 (fun i9 => ifB (leI (Int.ofNat 0) i9) (onInt .i64 x2 (fun i10 => some ((.bool (ltI i10 (Int.ofNat 3))), h7))) (some ((.bool false), h7)))) (some ((.bool false), h7)))))) l4)
def S74 (N : Nat) (call : CT) (y0 : AV) (h : H) : R := S74_0 call y0 h
theorem R74_0 (N : Nat) (call : CT) (y0 : AV) (h : H) : body Tryz.prog N call Tryz.f74 A74.an [y0] h = S74_0 call y0 h := by kernel_rfl
theorem Z74 (N : Nat) (call : CT) (y0 : AV) (h : H) : body Tryz.prog N call Tryz.f74 A74.an [y0] h = S74 N call y0 h := by
  have r := R74_0 N call y0 h
  have z : S74_0 call y0 h = S74 N call y0 h := by kernel_rfl
  exact r.trans z
theorem V74 (N : Nat) (call : CT) (vs : List AV) (h : H) : body Tryz.prog N call Tryz.f74 A74.an vs h = row1 (fun y0 => S74 N call y0 h) vs := wrap1 (by kernel_rfl) (fun y0 => Z74 N call y0 h) vs
/- slices.IndexFunc[[]sibyl/api.Pred,sibyl/api.Pred] -/
def A75.a0 : Ann := .items [.op 0]
def A75.a1 : Ann := .items [.op 0, .op 1, .op 2]
def A75.a2 : Ann := .items [.op 0]
def A75.a3 : Ann := .leaf
def A75.a4 : Ann := .leaf
def A75.a5 : Ann := .two A75.a3 A75.a4
def A75.a6 : Ann := .items [.op 0, .op 1]
def A75.a7 : Ann := .items [.op 0, .op 1, .op 2, .op 3, .op 4, .op 5]
def A75.a8 : Ann := .items [.op 0, .op 1]
def A75.a9 : Ann := .leaf
def A75.a10 : Ann := .two A75.a8 A75.a9
def A75.a11 : Ann := .leaf
def A75.a12 : Ann := .two A75.a10 A75.a11
def A75.a13 : Ann := .two A75.a7 A75.a12
def A75.a14 : Ann := .two A75.a6 A75.a13
def A75.a15 : Ann := .one A75.a14
def A75.a16 : Ann := .items [.op 0, .op 1]
def A75.a17 : Ann := .two A75.a15 A75.a16
def A75.a18 : Ann := .two A75.a5 A75.a17
def A75.a19 : Ann := .two A75.a2 A75.a18
def A75.a20 : Ann := .meet [0, 1, 7, 8] [] A75.a19
def A75.a21 : Ann := .one A75.a20
def A75.a22 : Ann := .two A75.a1 A75.a21
def A75.a23 : Ann := .items [.op 0]
def A75.a24 : Ann := .leaf
def A75.a25 : Ann := .two A75.a23 A75.a24
def A75.a26 : Ann := .two A75.a22 A75.a25
def A75.an : Ann := .two A75.a0 A75.a26
def F75_1 (N : Nat) (call : CT) (self : K3) : K3 :=
  (codeK Tryz.prog N call (c1 (c1 (c2 (c1 (c2 (bodyOf Tryz.f75)))))) A75.a19 (fun T L h => self (keepT [0, 1, 7, 8] T) (keepL [] L) h) (fun i T L h => match Nat.beq i 0 with | true => (codeK Tryz.prog N call (c2 (c2 (bodyOf Tryz.f75))) A75.a25 (resK Tryz.prog Tryz.f75.results.toList) (fun _ _ _ _ => none) (resK Tryz.prog Tryz.f75.results.toList)) T L h | false => (fun _ _ _ _ => none) i T L h) (resK Tryz.prog Tryz.f75.results.toList))
def E75_1 (N : Nat) (call : CT) : K3 := iter (F75_1 N call) N
def S75_1 (call : CT) (k1 : OA → Nat → Option Nat → AV → Int → Int → H → R) (a_0 : OA) (n_0 : Nat) (c_0 : Option Nat) (x_1 : AV) (x_7 x_8 : Int) (h : H) : R :=
  ifB (ltI x_8 x_7) (idxAddr 8 a_0 n_0 x_8 (fun b1 o2 => ldK h b1 o2 8 (fun l3 => row8 (fun x4 x5 x6 x7 x8 x9 x10 x11 => onFn x_1 (fun g14 q15 q16 => bindR (call g14 (q15 ++ [(.agg [x4, x5, x6, x7, x8, x9, x10, x11])] ++ q16) h) (fun v12 h13 => onBool v12 (fun e17 => ifB e17 (some ((.int .i64 x_8), h13)) (k1 a_0 n_0 c_0 x_1 x_7 (wrapF .i64 (Int.add x_8 (Int.ofNat 1))) h13))))) l3))) (some ((.int .i64 (Int.negSucc 0)), h))
def S75_0 (call : CT) (k1 : OA → Nat → Option Nat → AV → Int → Int → H → R) (y0 y1 : AV) (h : H) : R :=
  onSlice y0 (fun a1 n2 c3 => k1 a1 n2 c3 y1 (Int.ofNat n2) (Int.ofNat 0) h)
def B75_1 (N : Nat) (call : CT) (ih : OA → Nat → Option Nat → AV → Int → Int → H → R) : OA → Nat → Option Nat → AV → Int → Int → H → R := S75_1 call ih
def I75_1 (N : Nat) (call : CT) (n : Nat) : OA → Nat → Option Nat → AV → Int → Int → H → R := Nat.rec (motive := fun _ => OA → Nat → Option Nat → AV → Int → Int → H → R) (fun _ _ _ _ _ _ _ => none) (fun _ ih => B75_1 N call ih) n
def C75_1 (N : Nat) (call : CT) : OA → Nat → Option Nat → AV → Int → Int → H → R := I75_1 N call N
def S75 (N : Nat) (call : CT) (y0 y1 : AV) (h : H) : R := S75_0 call (C75_1 N call) y0 y1 h
def T75_1 (a_0 : OA) (n_0 : Nat) (c_0 : Option Nat) (x_1 : AV) (x_7 x_8 : Int) : LF := [(some (.v (.slice a_0 n_0 c_0))), (some (.v x_1)), oo, oo, oo, oo, oo, (some (.v (.int .i64 x_7))), (some (.v (.int .i64 x_8))), oo, oo, oo, oo, oo, oo, oo, oo, oo, oo]
def L75_1 (a_0 : OA) (n_0 : Nat) (c_0 : Option Nat) (x_1 : AV) (x_7 x_8 : Int) : LL := [oo, oo, oo, oo, oo, oo, oo, oo, oo, oo, oo, oo, oo, oo, oo, oo, oo, oo, oo]
theorem R75_1 (N : Nat) (call : CT) (self : K3) (a_0 : OA) (n_0 : Nat) (c_0 : Option Nat) (x_1 : AV) (x_7 x_8 : Int) (h : H) : F75_1 N call self (T75_1 a_0 n_0 c_0 x_1 x_7 x_8) (L75_1 a_0 n_0 c_0 x_1 x_7 x_8) h = S75_1 call (fun (a_0 : OA) (n_0 : Nat) (c_0 : Option Nat) (x_1 : AV) (x_7 x_8 : Int) h => self (T75_1 a_0 n_0 c_0 x_1 x_7 x_8) (L75_1 a_0 n_0 c_0 x_1 x_7 x_8) h) a_0 n_0 c_0 x_1 x_7 x_8 h := by kernel_rfl
theorem Q75_1 (N : Nat) (call : CT) (n : Nat) : ∀ (a_0 : OA) (n_0 : Nat) (c_0 : Option Nat) (x_1 : AV) (x_7 x_8 : Int) (h : H), (iter (F75_1 N call) n) (T75_1 a_0 n_0 c_0 x_1 x_7 x_8) (L75_1 a_0 n_0 c_0 x_1 x_7 x_8) h = I75_1 N call n a_0 n_0 c_0 x_1 x_7 x_8 h := by
  induction n with
  | zero => intros; exact (iter_zero _ _ _ _).trans (by kernel_rfl)
  | succ n ih =>
    intro a_0 n_0 c_0 x_1 x_7 x_8 h
    have e0 : (fun (a_0 : OA) (n_0 : Nat) (c_0 : Option Nat) (x_1 : AV) (x_7 x_8 : Int) h => (iter (F75_1 N call) n) (T75_1 a_0 n_0 c_0 x_1 x_7 x_8) (L75_1 a_0 n_0 c_0 x_1 x_7 x_8) h) = (I75_1 N call n) := by funext a_0 n_0 c_0 x_1 x_7 x_8 h; exact ih a_0 n_0 c_0 x_1 x_7 x_8 h
    have r := R75_1 N call (iter (F75_1 N call) n) a_0 n_0 c_0 x_1 x_7 x_8 h
    rw [e0] at r
    have g := iter_succ (F75_1 N call) n (T75_1 a_0 n_0 c_0 x_1 x_7 x_8) (L75_1 a_0 n_0 c_0 x_1 x_7 x_8) h
    have z : S75_1 call (I75_1 N call n) a_0 n_0 c_0 x_1 x_7 x_8 h = I75_1 N call (n + 1) a_0 n_0 c_0 x_1 x_7 x_8 h := by kernel_rfl
    exact g.trans (r.trans z)
theorem Z75_1 (N : Nat) (call : CT) (a_0 : OA) (n_0 : Nat) (c_0 : Option Nat) (x_1 : AV) (x_7 x_8 : Int) (h : H) : (E75_1 N call) (T75_1 a_0 n_0 c_0 x_1 x_7 x_8) (L75_1 a_0 n_0 c_0 x_1 x_7 x_8) h = C75_1 N call a_0 n_0 c_0 x_1 x_7 x_8 h := by
  have g : (E75_1 N call) (T75_1 a_0 n_0 c_0 x_1 x_7 x_8) (L75_1 a_0 n_0 c_0 x_1 x_7 x_8) h = iter (F75_1 N call) N (T75_1 a_0 n_0 c_0 x_1 x_7 x_8) (L75_1 a_0 n_0 c_0 x_1 x_7 x_8) h := by kernel_rfl
  have z : I75_1 N call N a_0 n_0 c_0 x_1 x_7 x_8 h = C75_1 N call a_0 n_0 c_0 x_1 x_7 x_8 h := by kernel_rfl
  exact g.trans ((Q75_1 N call N a_0 n_0 c_0 x_1 x_7 x_8 h).trans z)
theorem R75_0 (N : Nat) (call : CT) (y0 y1 : AV) (h : H) : body Tryz.prog N call Tryz.f75 A75.an [y0, y1] h = S75_0 call (fun (a_0 : OA) (n_0 : Nat) (c_0 : Option Nat) (x_1 : AV) (x_7 x_8 : Int) h => (E75_1 N call) (T75_1 a_0 n_0 c_0 x_1 x_7 x_8) (L75_1 a_0 n_0 c_0 x_1 x_7 x_8) h) y0 y1 h := by kernel_rfl
theorem Z75 (N : Nat) (call : CT) (y0 y1 : AV) (h : H) : body Tryz.prog N call Tryz.f75 A75.an [y0, y1] h = S75 N call y0 y1 h := by
  have e1 : (fun (a_0 : OA) (n_0 : Nat) (c_0 : Option Nat) (x_1 : AV) (x_7 x_8 : Int) h => (E75_1 N call) (T75_1 a_0 n_0 c_0 x_1 x_7 x_8) (L75_1 a_0 n_0 c_0 x_1 x_7 x_8) h) = (C75_1 N call) := by
    funext a_0 n_0 c_0 x_1 x_7 x_8 h
    exact Z75_1 N call a_0 n_0 c_0 x_1 x_7 x_8 h
  have r := R75_0 N call y0 y1 h
  rw [e1] at r
  have z : S75_0 call (C75_1 N call) y0 y1 h = S75 N call y0 y1 h := by kernel_rfl
  exact r.trans z
theorem V75 (N : Nat) (call : CT) (vs : List AV) (h : H) : body Tryz.prog N call Tryz.f75 A75.an vs h = row2 (fun y0 y1 => S75 N call y0 y1 h) vs := wrap2 (by kernel_rfl) (fun y0 y1 => Z75 N call y0 y1 h) vs
/- sibyl/tree.isName -/
def A76.a0 : Ann := .items [.op 0]
def A76.a1 : Ann := .items [.op 0, .op 1, .op 2, .op 3, .op 4, .op 5, .op 6, .op 7, .op 8]
def A76.a2 : Ann := .items [.op 0, .op 1, .op 2, .split 14, .op 3, .op 4, .op 5, .op 6, .op 7, .split 19, .op 8, .op 9, .op 10, .op 11, .op 12, .op 13, .op 14, .split 26, .op 15, .op 16, .op 17, .op 18, .op 19, .op 20, .op 21, .op 22]
def A76.a3 : Ann := .leaf
def A76.a4 : Ann := .two A76.a2 A76.a3
def A76.a5 : Ann := .two A76.a1 A76.a4
def A76.an : Ann := .two A76.a0 A76.a5
def S76_0 (call : CT) (y0 : AV) (h : H) : R :=
  onStr y0 (fun s1 => bindR (call 100 [(.str s1)] h) (fun v2 h3 => onTuple v2 0 (fun v4 => onSlice v4 (fun a5 n6 c7 => onTuple v2 1 (fun v8 => onInt .i64 v8 (fun i9 => onTuple v2 2 (fun v10 => onInt .i64 v10 (fun i11 => ifB (eqI i11 (Int.ofNat 0)) (ifB (eqI (Int.ofNat n6) (Int.ofNat 2)) (idxAddr 4 a5 n6 (Int.ofNat 0) (fun b12 o13 => ldK h3 b12 (o13 + 0) 1 (one (fun v14 => onInt .i64 v14 (fun i15 => ifB (eqI i15 (Int.ofNat 1)) (idxAddr 4 a5 n6 (Int.ofNat 0) (fun b16 o17 => ldK h3 b16 (o17 + 1) 1 (one (fun v18 => onStr v18 (fun s19 => some ((.bool (eqS s19 s1)), h3)))))) (some ((.bool false), h3))))))) (some ((.bool false), h3))) (some ((.bool false), h3))))))))))
def S76 (N : Nat) (call : CT) (y0 : AV) (h : H) : R := S76_0 call y0 h
theorem R76_0 (N : Nat) (call : CT) (y0 : AV) (h : H) : body Tryz.prog N call Tryz.f76 A76.an [y0] h = S76_0 call y0 h := by kernel_rfl
theorem Z76 (N : Nat) (call : CT) (y0 : AV) (h : H) : body Tryz.prog N call Tryz.f76 A76.an [y0] h = S76 N call y0 h := by
  have r := R76_0 N call y0 h
  have z : S76_0 call y0 h = S76 N call y0 h := by kernel_rfl
  exact r.trans z
theorem V76 (N : Nat) (call : CT) (vs : List AV) (h : H) : body Tryz.prog N call Tryz.f76 A76.an vs h = row1 (fun y0 => S76 N call y0 h) vs := wrap1 (by kernel_rfl) (fun y0 => Z76 N call y0 h) vs
/- sibyl/tree.may -/
def A77.a0 : Ann := .items [.opL 0, .op 1]
def A77.a1 : Ann := .items [.op 0, .op 1, .op 2, .op 3, .split 6, .op 4, .op 5, .op 6, .op 7, .op 8]
def A77.a2 : Ann := .leaf
def A77.a3 : Ann := .two A77.a1 A77.a2
def A77.an : Ann := .two A77.a0 A77.a3
def S77_0 (call : CT) (y0 : AV) (h : H) : R :=
  onAgR y0 (fun l6 => row5 (fun x1 x2 x3 x4 x5 => bindR (call 50 [(.agg [x1, x2, x3, x4, x5])] h) (fun v7 h8 => onInt .i64 v7 (fun i9 => ifB (leI i9 (Int.ofNat 2000)) (bindR (call 101 [(.agg [x1, x2, x3, x4, x5])] h8) (fun v10 h11 => onInt .i64 v10 (fun i12 => some ((.bool (leI i12 (Int.ofNat 30))), h11)))) (some ((.bool false), h8))))) l6)
def S77 (N : Nat) (call : CT) (y0 : AV) (h : H) : R := S77_0 call y0 h
theorem R77_0 (N : Nat) (call : CT) (y0 : AV) (h : H) : body Tryz.prog N call Tryz.f77 A77.an [y0] h = S77_0 call y0 h := by kernel_rfl
theorem Z77 (N : Nat) (call : CT) (y0 : AV) (h : H) : body Tryz.prog N call Tryz.f77 A77.an [y0] h = S77 N call y0 h := by
  have r := R77_0 N call y0 h
  have z : S77_0 call y0 h = S77 N call y0 h := by kernel_rfl
  exact r.trans z
theorem V77 (N : Nat) (call : CT) (vs : List AV) (h : H) : body Tryz.prog N call Tryz.f77 A77.an vs h = row1 (fun y0 => S77 N call y0 h) vs := wrap1 (by kernel_rfl) (fun y0 => Z77 N call y0 h) vs
/- sibyl/tree.isFormula -/
def A78.a0 : Ann := .items [.opL 0, .op 1]
def A78.a1 : Ann := .items [.op 0, .op 1]
def A78.a2 : Ann := .items [.op 0, .op 1]
def A78.a3 : Ann := .leaf
def A78.a4 : Ann := .items [.op 0, .op 1]
def A78.a5 : Ann := .two A78.a3 A78.a4
def A78.a6 : Ann := .two A78.a2 A78.a5
def A78.a7 : Ann := .items [.op 0, .op 1, .op 2]
def A78.a8 : Ann := .leaf
def A78.a9 : Ann := .two A78.a7 A78.a8
def A78.a10 : Ann := .items [.op 0, .op 1]
def A78.a11 : Ann := .items [.op 0, .op 1, .op 2, .split 14, .op 3, .op 4, .op 5, .op 6]
def A78.a12 : Ann := .leaf
def A78.a13 : Ann := .two A78.a11 A78.a12
def A78.a14 : Ann := .items [.op 0, .op 1]
def A78.a15 : Ann := .leaf
def A78.a16 : Ann := .items [.op 0, .op 1]
def A78.a17 : Ann := .leaf
def A78.a18 : Ann := .items [.op 0, .op 1]
def A78.a19 : Ann := .leaf
def A78.a20 : Ann := .items [.op 0, .op 1]
def A78.a21 : Ann := .two A78.a19 A78.a20
def A78.a22 : Ann := .two A78.a18 A78.a21
def A78.a23 : Ann := .two A78.a17 A78.a22
def A78.a24 : Ann := .two A78.a16 A78.a23
def A78.a25 : Ann := .two A78.a15 A78.a24
def A78.a26 : Ann := .two A78.a14 A78.a25
def A78.a27 : Ann := .items [.op 0, .op 1, .op 2, .split 25, .op 3, .op 4, .op 5, .op 6]
def A78.a28 : Ann := .leaf
def A78.a29 : Ann := .two A78.a27 A78.a28
def A78.a30 : Ann := .items [.op 0, .op 1]
def A78.a31 : Ann := .leaf
def A78.a32 : Ann := .items [.op 0, .op 1]
def A78.a33 : Ann := .two A78.a31 A78.a32
def A78.a34 : Ann := .two A78.a30 A78.a33
def A78.a35 : Ann := .items [.op 0, .op 1, .op 2, .op 3, .split 35, .op 4, .op 5, .op 6, .op 7, .op 8, .split 40, .op 9, .op 10, .op 11, .op 12, .op 13, .split 45, .op 14, .op 15, .op 16, .op 17, .op 18, .op 19, .split 51, .op 20, .op 21, .op 22, .op 23]
def A78.a36 : Ann := .leaf
def A78.a37 : Ann := .two A78.a35 A78.a36
def A78.a38 : Ann := .items [.op 0, .op 1]
def A78.a39 : Ann := .items [.op 0, .op 1, .op 2, .op 3, .split 60, .op 4, .op 5, .op 6, .op 7, .op 8, .split 65, .op 9, .op 10, .op 11, .op 12, .op 13, .op 14]
def A78.a40 : Ann := .leaf
def A78.a41 : Ann := .two A78.a39 A78.a40
def A78.a42 : Ann := .items [.op 0, .op 1]
def A78.a43 : Ann := .leaf
def A78.a44 : Ann := .items [.op 0, .op 1]
def A78.a45 : Ann := .leaf
def A78.a46 : Ann := .items [.op 0, .op 1]
def A78.a47 : Ann := .leaf
def A78.a48 : Ann := .items [.op 0, .op 1]
def A78.a49 : Ann := .leaf
def A78.a50 : Ann := .items [.op 0, .op 1]
def A78.a51 : Ann := .leaf
def A78.a52 : Ann := .items [.op 0, .op 1]
def A78.a53 : Ann := .leaf
def A78.a54 : Ann := .items [.op 0, .op 1]
def A78.a55 : Ann := .two A78.a53 A78.a54
def A78.a56 : Ann := .two A78.a52 A78.a55
def A78.a57 : Ann := .two A78.a51 A78.a56
def A78.a58 : Ann := .two A78.a50 A78.a57
def A78.a59 : Ann := .two A78.a49 A78.a58
def A78.a60 : Ann := .two A78.a48 A78.a59
def A78.a61 : Ann := .two A78.a47 A78.a60
def A78.a62 : Ann := .two A78.a46 A78.a61
def A78.a63 : Ann := .two A78.a45 A78.a62
def A78.a64 : Ann := .two A78.a44 A78.a63
def A78.a65 : Ann := .two A78.a43 A78.a64
def A78.a66 : Ann := .two A78.a42 A78.a65
def A78.a67 : Ann := .items [.op 0, .op 1, .op 2, .split 81, .op 3, .op 4, .op 5, .op 6]
def A78.a68 : Ann := .leaf
def A78.a69 : Ann := .two A78.a67 A78.a68
def A78.a70 : Ann := .items [.op 0, .op 1]
def A78.a71 : Ann := .items [.op 0, .op 1, .op 2, .op 3, .split 90, .op 4, .op 5, .op 6, .op 7, .op 8, .split 95, .op 9, .op 10, .op 11, .op 12, .op 13, .op 14, .split 101, .op 15, .op 16, .op 17, .op 18]
def A78.a72 : Ann := .leaf
def A78.a73 : Ann := .two A78.a71 A78.a72
def A78.a74 : Ann := .leaf
def A78.a75 : Ann := .two A78.a73 A78.a74
def A78.a76 : Ann := .two A78.a70 A78.a75
def A78.a77 : Ann := .two A78.a69 A78.a76
def A78.a78 : Ann := .join [1, 4, 71] [1] A78.a66 A78.a77
def A78.a79 : Ann := .two A78.a41 A78.a78
def A78.a80 : Ann := .two A78.a38 A78.a79
def A78.a81 : Ann := .two A78.a37 A78.a80
def A78.a82 : Ann := .join [1, 4, 29] [1] A78.a34 A78.a81
def A78.a83 : Ann := .two A78.a29 A78.a82
def A78.a84 : Ann := .join [1, 4, 18] [1] A78.a26 A78.a83
def A78.a85 : Ann := .two A78.a13 A78.a84
def A78.a86 : Ann := .two A78.a10 A78.a85
def A78.a87 : Ann := .two A78.a9 A78.a86
def A78.a88 : Ann := .join [1, 4, 5] [1] A78.a6 A78.a87
def A78.a89 : Ann := .one A78.a88
def A78.a90 : Ann := .two A78.a1 A78.a89
def A78.a91 : Ann := .items [.op 0]
def A78.a92 : Ann := .leaf
def A78.a93 : Ann := .two A78.a91 A78.a92
def A78.a94 : Ann := .join [] [] A78.a90 A78.a93
def A78.an : Ann := .two A78.a0 A78.a94
def E78_1 (N : Nat) (call : CT) : K3 :=
  (codeK Tryz.prog N call (c2 (c2 (bodyOf Tryz.f78))) A78.a93 (resK Tryz.prog Tryz.f78.results.toList) (fun _ _ _ _ => none) (resK Tryz.prog Tryz.f78.results.toList))
def E78_2 (N : Nat) (call : CT) : K3 :=
  (codeK Tryz.prog N call (c2 (c1 (c2 (c1 (c2 (bodyOf Tryz.f78)))))) A78.a87 (fun T L h => (E78_1 N call) (keepT [] T) (keepL [] L) h) (fun i T L h => match Nat.beq i 0 with | true => (fun T L h => (E78_1 N call) (keepT [] T) (keepL [] L) h) T L h | false => (fun _ _ _ _ => none) i T L h) (resK Tryz.prog Tryz.f78.results.toList))
def E78_3 (N : Nat) (call : CT) : K3 :=
  (codeK Tryz.prog N call (c2 (c2 (c2 (c2 (c2 (c1 (c2 (c1 (c2 (bodyOf Tryz.f78)))))))))) A78.a83 (fun T L h => (E78_1 N call) (keepT [] T) (keepL [] L) h) (fun i T L h => match Nat.beq i 0 with | true => (fun T L h => (E78_1 N call) (keepT [] T) (keepL [] L) h) T L h | false => (fun _ _ _ _ => none) i T L h) (resK Tryz.prog Tryz.f78.results.toList))
def E78_4 (N : Nat) (call : CT) : K3 :=
  (codeK Tryz.prog N call (c2 (c2 (c2 (c2 (c2 (c2 (c2 (c1 (c2 (c1 (c2 (bodyOf Tryz.f78)))))))))))) A78.a81 (fun T L h => (E78_1 N call) (keepT [] T) (keepL [] L) h) (fun i T L h => match Nat.beq i 0 with | true => (fun T L h => (E78_1 N call) (keepT [] T) (keepL [] L) h) T L h | false => (fun _ _ _ _ => none) i T L h) (resK Tryz.prog Tryz.f78.results.toList))
def E78_5 (N : Nat) (call : CT) : K3 :=
  (codeK Tryz.prog N call (c2 (c2 (c2 (c2 (c2 (c2 (c2 (c2 (c2 (c2 (c2 (c1 (c2 (c1 (c2 (bodyOf Tryz.f78)))))))))))))))) A78.a77 (fun T L h => (E78_1 N call) (keepT [] T) (keepL [] L) h) (fun i T L h => match Nat.beq i 0 with | true => (fun T L h => (E78_1 N call) (keepT [] T) (keepL [] L) h) T L h | false => (fun _ _ _ _ => none) i T L h) (resK Tryz.prog Tryz.f78.results.toList))
def S78_1 (call : CT) (h : H) : R :=
  some ((.bool false), h)
def S78_2 (call : CT) (k3 : List Nat → Bool → AV → AV → AV → AV → AV → H → R) (x_4 : List Nat) (x_5 : Bool) (l1_0 l1_1 : AV) (l1_2 l1_3 l1_4 : AV) (h : H) : R :=
  ifB x_5 (bindR (call 102 [(.agg [l1_0, l1_1, l1_2, l1_3, l1_4]), (.int .i64 (Int.ofNat 0))] h) (fun v1 h2 => onBool v1 (fun e3 => some ((.bool e3), h2)))) (ifB (eqS x_4 [110, 111, 116]) (bindR (call 102 [(.agg [l1_0, l1_1, l1_2, l1_3, l1_4]), (.int .i64 (Int.ofNat 1))] h) (fun v4 h5 => onBool v4 (fun e6 => ifB e6 (bindR (call 103 [(.agg [l1_0, l1_1, l1_2, l1_3, l1_4]), (.func 78 [] [])] h5) (fun v7 h8 => onBool v7 (fun e9 => some ((.bool e9), h8)))) (some ((.bool false), h5))))) (ifB (eqS x_4 [97, 110, 100]) (k3 x_4 (eqS x_4 [97, 110, 100]) l1_0 l1_1 l1_2 l1_3 l1_4 h) (ifB (eqS x_4 [111, 114]) (k3 x_4 (eqS x_4 [111, 114]) l1_0 l1_1 l1_2 l1_3 l1_4 h) (ifB (eqS x_4 [105, 109, 112]) (k3 x_4 (eqS x_4 [105, 109, 112]) l1_0 l1_1 l1_2 l1_3 l1_4 h) (k3 x_4 (eqS x_4 [105, 102, 102]) l1_0 l1_1 l1_2 l1_3 l1_4 h)))))
def S78_3 (call : CT) (k4 : List Nat → Bool → AV → AV → AV → AV → AV → H → R) (x_4 : List Nat) (x_18 : Bool) (l1_0 l1_1 : AV) (l1_2 l1_3 l1_4 : AV) (h : H) : R :=
  ifB x_18 (bindR (call 102 [(.agg [l1_0, l1_1, l1_2, l1_3, l1_4]), (.int .i64 (Int.ofNat 2))] h) (fun v1 h2 => onBool v1 (fun e3 => ifB e3 (bindR (call 103 [(.agg [l1_0, l1_1, l1_2, l1_3, l1_4]), (.func 78 [] [])] h2) (fun v4 h5 => onBool v4 (fun e6 => some ((.bool e6), h5)))) (some ((.bool false), h2))))) (ifB (eqS x_4 [101, 120]) (k4 x_4 (eqS x_4 [101, 120]) l1_0 l1_1 l1_2 l1_3 l1_4 h) (k4 x_4 (eqS x_4 [97, 108, 108]) l1_0 l1_1 l1_2 l1_3 l1_4 h))
def S78_4 (call : CT) (k5 : List Nat → Bool → AV → AV → AV → AV → AV → H → R) (x_4 : List Nat) (x_29 : Bool) (l1_0 l1_1 : AV) (l1_2 l1_3 l1_4 : AV) (h : H) : R :=
  ifB x_29 (onStr l1_1 (fun s1 => bindR (call 76 [(.str s1)] h) (fun v2 h3 => onBool v2 (fun e4 => ifB e4 (onInt .i64 l1_2 (fun i5 => ifB (leI (Int.ofNat 0) i5) (onInt .i64 l1_2 (fun i6 => ifB (ltI i6 (Int.ofNat 3)) (onSlice l1_4 (fun a7 n8 c9 => ifB (eqI (Int.ofNat n8) (Int.ofNat 1)) (bindR (call 103 [(.agg [l1_0, l1_1, l1_2, l1_3, l1_4]), (.func 78 [] [])] h3) (fun v10 h11 => onBool v10 (fun e12 => some ((.bool e12), h11)))) (some ((.bool false), h3)))) (some ((.bool false), h3)))) (some ((.bool false), h3)))) (some ((.bool false), h3)))))) (ifB (eqS x_4 [105, 115]) (onStr l1_1 (fun s13 => bindR (call 76 [(.str s13)] h) (fun v14 h15 => onBool v14 (fun e16 => ifB e16 (onInt .i64 l1_2 (fun i17 => ifB (eqI i17 (Int.ofNat 0)) (onSlice l1_4 (fun a18 n19 c20 => some ((.bool (eqI (Int.ofNat n19) (Int.ofNat 0))), h15))) (some ((.bool false), h15)))) (some ((.bool false), h15)))))) (ifB (eqS x_4 [101, 113]) (k5 x_4 (eqS x_4 [101, 113]) l1_0 l1_1 l1_2 l1_3 l1_4 h) (ifB (eqS x_4 [110, 101]) (k5 x_4 (eqS x_4 [110, 101]) l1_0 l1_1 l1_2 l1_3 l1_4 h) (ifB (eqS x_4 [108, 116]) (k5 x_4 (eqS x_4 [108, 116]) l1_0 l1_1 l1_2 l1_3 l1_4 h) (ifB (eqS x_4 [108, 101]) (k5 x_4 (eqS x_4 [108, 101]) l1_0 l1_1 l1_2 l1_3 l1_4 h) (ifB (eqS x_4 [105, 110]) (k5 x_4 (eqS x_4 [105, 110]) l1_0 l1_1 l1_2 l1_3 l1_4 h) (ifB (eqS x_4 [110, 111, 116, 105, 110]) (k5 x_4 (eqS x_4 [110, 111, 116, 105, 110]) l1_0 l1_1 l1_2 l1_3 l1_4 h) (k5 x_4 (eqS x_4 [115, 117, 98]) l1_0 l1_1 l1_2 l1_3 l1_4 h))))))))
def S78_5 (call : CT) (k1 : H → R) (x_4 : List Nat) (x_71 : Bool) (l1_0 l1_1 : AV) (l1_2 l1_3 l1_4 : AV) (h : H) : R :=
  ifB x_71 (bindR (call 102 [(.agg [l1_0, l1_1, l1_2, l1_3, l1_4]), (.int .i64 (Int.ofNat 2))] h) (fun v1 h2 => onBool v1 (fun e3 => ifB e3 (bindR (call 103 [(.agg [l1_0, l1_1, l1_2, l1_3, l1_4]), (.func 104 [] [])] h2) (fun v4 h5 => onBool v4 (fun e6 => some ((.bool e6), h5)))) (some ((.bool false), h2))))) (ifB (eqS x_4 [99, 97, 108, 108]) (onStr l1_1 (fun s7 => bindR (call 76 [(.str s7)] h) (fun v8 h9 => onBool v8 (fun e10 => ifB e10 (onInt .i64 l1_2 (fun i11 => ifB (eqI i11 (Int.ofNat 0)) (onSlice l1_4 (fun a12 n13 c14 => ifB (leI (Int.ofNat n13) (Int.ofNat 6)) (bindR (call 103 [(.agg [l1_0, l1_1, l1_2, l1_3, l1_4]), (.func 104 [] [])] h9) (fun v15 h16 => onBool v15 (fun e17 => some ((.bool e17), h16)))) (some ((.bool false), h9)))) (some ((.bool false), h9)))) (some ((.bool false), h9)))))) (k1  h))
def S78_0 (call : CT) (k2 : List Nat → Bool → AV → AV → AV → AV → AV → H → R) (y0 : AV) (h : H) : R :=
  onAgR y0 (fun l6 => row5 (fun x1 x2 x3 x4 x5 => onStr x1 (fun s7 => ifB (eqS s7 [116, 114, 117, 101]) (k2 s7 (eqS s7 [116, 114, 117, 101]) x1 x2 x3 x4 x5 h) (k2 s7 (eqS s7 [102, 97, 108, 115, 101]) x1 x2 x3 x4 x5 h))) l6)
def C78_1 (N : Nat) (call : CT) : H → R := S78_1 call
def C78_5 (N : Nat) (call : CT) : List Nat → Bool → AV → AV → AV → AV → AV → H → R := S78_5 call (C78_1 N call)
def C78_4 (N : Nat) (call : CT) : List Nat → Bool → AV → AV → AV → AV → AV → H → R := S78_4 call (C78_5 N call)
def C78_3 (N : Nat) (call : CT) : List Nat → Bool → AV → AV → AV → AV → AV → H → R := S78_3 call (C78_4 N call)
def C78_2 (N : Nat) (call : CT) : List Nat → Bool → AV → AV → AV → AV → AV → H → R := S78_2 call (C78_3 N call)
def S78 (N : Nat) (call : CT) (y0 : AV) (h : H) : R := S78_0 call (C78_2 N call) y0 h
def T78_1 : LF := [oo, oo, oo, oo, oo, oo, oo, oo, oo, oo, oo, oo, oo, oo, oo, oo, oo, oo, oo, oo, oo, oo, oo, oo, oo, oo, oo, oo, oo, oo, oo, oo, oo, oo, oo, oo, oo, oo, oo, oo, oo, oo, oo, oo, oo, oo, oo, oo, oo, oo, oo, oo, oo, oo, oo, oo, oo, oo, oo, oo, oo, oo, oo, oo, oo, oo, oo, oo, oo, oo, oo, oo, oo, oo, oo, oo, oo, oo, oo, oo, oo, oo, oo, oo, oo, oo, oo, oo, oo, oo, oo, oo, oo, oo, oo, oo, oo, oo, oo, oo, oo, oo, oo, oo, oo]
def L78_1 : LL := [oo, oo, oo, oo, oo, oo, oo, oo, oo, oo, oo, oo, oo, oo, oo, oo, oo, oo, oo, oo, oo, oo, oo, oo, oo, oo, oo, oo, oo, oo, oo, oo, oo, oo, oo, oo, oo, oo, oo, oo, oo, oo, oo, oo, oo, oo, oo, oo, oo, oo, oo, oo, oo, oo, oo, oo, oo, oo, oo, oo, oo, oo, oo, oo, oo, oo, oo, oo, oo, oo, oo, oo, oo, oo, oo, oo, oo, oo, oo, oo, oo, oo, oo, oo, oo, oo, oo, oo, oo, oo, oo, oo, oo, oo, oo, oo, oo, oo, oo, oo, oo, oo, oo, oo, oo]
def T78_2 (x_4 : List Nat) (x_5 : Bool) (l1_0 l1_1 : AV) (l1_2 l1_3 l1_4 : AV) : LF := [none, (some (.lptr 1 0)), none, none, (some (.v (.str x_4))), (some (.v (.bool x_5))), oo, oo, oo, oo, oo, oo, oo, oo, oo, oo, oo, oo, oo, oo, oo, oo, oo, oo, oo, oo, oo, oo, oo, oo, oo, oo, oo, oo, oo, oo, oo, oo, oo, oo, oo, oo, oo, oo, oo, oo, oo, oo, oo, oo, oo, oo, oo, oo, oo, oo, oo, oo, oo, oo, oo, oo, oo, oo, oo, oo, oo, oo, oo, oo, oo, oo, oo, oo, oo, oo, oo, oo, oo, oo, oo, oo, oo, oo, oo, oo, oo, oo, oo, oo, oo, oo, oo, oo, oo, oo, oo, oo, oo, oo, oo, oo, oo, oo, oo]
def L78_2 (x_4 : List Nat) (x_5 : Bool) (l1_0 l1_1 : AV) (l1_2 l1_3 l1_4 : AV) : LL := [none, (some (.cells [l1_0, l1_1, l1_2, l1_3, l1_4])), oo, oo, oo, oo, oo, oo, oo, oo, oo, oo, oo, oo, oo, oo, oo, oo, oo, oo, oo, oo, oo, oo, oo, oo, oo, oo, oo, oo, oo, oo, oo, oo, oo, oo, oo, oo, oo, oo, oo, oo, oo, oo, oo, oo, oo, oo, oo, oo, oo, oo, oo, oo, oo, oo, oo, oo, oo, oo, oo, oo, oo, oo, oo, oo, oo, oo, oo, oo, oo, oo, oo, oo, oo, oo, oo, oo, oo, oo, oo, oo, oo, oo, oo, oo, oo, oo, oo, oo, oo, oo, oo, oo, oo, oo, oo, oo, oo, oo, oo, oo, oo, oo, oo]
def T78_3 (x_4 : List Nat) (x_18 : Bool) (l1_0 l1_1 : AV) (l1_2 l1_3 l1_4 : AV) : LF := [none, (some (.lptr 1 0)), none, none, (some (.v (.str x_4))), oo, oo, oo, oo, oo, oo, oo, oo, oo, oo, oo, oo, oo, (some (.v (.bool x_18))), oo, oo, oo, oo, oo, oo, oo, oo, oo, oo, oo, oo, oo, oo, oo, oo, oo, oo, oo, oo, oo, oo, oo, oo, oo, oo, oo, oo, oo, oo, oo, oo, oo, oo, oo, oo, oo, oo, oo, oo, oo, oo, oo, oo, oo, oo, oo, oo, oo, oo, oo, oo, oo, oo, oo, oo, oo, oo, oo, oo, oo, oo, oo, oo, oo, oo, oo, oo, oo, oo, oo, oo, oo, oo, oo, oo, oo, oo, oo, oo, oo, oo, oo, oo, oo, oo]
def L78_3 (x_4 : List Nat) (x_18 : Bool) (l1_0 l1_1 : AV) (l1_2 l1_3 l1_4 : AV) : LL := [none, (some (.cells [l1_0, l1_1, l1_2, l1_3, l1_4])), oo, oo, oo, oo, oo, oo, oo, oo, oo, oo, oo, oo, oo, oo, oo, oo, oo, oo, oo, oo, oo, oo, oo, oo, oo, oo, oo, oo, oo, oo, oo, oo, oo, oo, oo, oo, oo, oo, oo, oo, oo, oo, oo, oo, oo, oo, oo, oo, oo, oo, oo, oo, oo, oo, oo, oo, oo, oo, oo, oo, oo, oo, oo, oo, oo, oo, oo, oo, oo, oo, oo, oo, oo, oo, oo, oo, oo, oo, oo, oo, oo, oo, oo, oo, oo, oo, oo, oo, oo, oo, oo, oo, oo, oo, oo, oo, oo, oo, oo, oo, oo, oo, oo]
def T78_4 (x_4 : List Nat) (x_29 : Bool) (l1_0 l1_1 : AV) (l1_2 l1_3 l1_4 : AV) : LF := [none, (some (.lptr 1 0)), none, none, (some (.v (.str x_4))), oo, oo, oo, oo, oo, oo, oo, oo, oo, oo, oo, oo, oo, oo, oo, oo, oo, oo, oo, oo, oo, oo, oo, oo, (some (.v (.bool x_29))), oo, oo, oo, oo, oo, oo, oo, oo, oo, oo, oo, oo, oo, oo, oo, oo, oo, oo, oo, oo, oo, oo, oo, oo, oo, oo, oo, oo, oo, oo, oo, oo, oo, oo, oo, oo, oo, oo, oo, oo, oo, oo, oo, oo, oo, oo, oo, oo, oo, oo, oo, oo, oo, oo, oo, oo, oo, oo, oo, oo, oo, oo, oo, oo, oo, oo, oo, oo, oo, oo, oo, oo, oo, oo, oo]
def L78_4 (x_4 : List Nat) (x_29 : Bool) (l1_0 l1_1 : AV) (l1_2 l1_3 l1_4 : AV) : LL := [none, (some (.cells [l1_0, l1_1, l1_2, l1_3, l1_4])), oo, oo, oo, oo, oo, oo, oo, oo, oo, oo, oo, oo, oo, oo, oo, oo, oo, oo, oo, oo, oo, oo, oo, oo, oo, oo, oo, oo, oo, oo, oo, oo, oo, oo, oo, oo, oo, oo, oo, oo, oo, oo, oo, oo, oo, oo, oo, oo, oo, oo, oo, oo, oo, oo, oo, oo, oo, oo, oo, oo, oo, oo, oo, oo, oo, oo, oo, oo, oo, oo, oo, oo, oo, oo, oo, oo, oo, oo, oo, oo, oo, oo, oo, oo, oo, oo, oo, oo, oo, oo, oo, oo, oo, oo, oo, oo, oo, oo, oo, oo, oo, oo, oo]
def T78_5 (x_4 : List Nat) (x_71 : Bool) (l1_0 l1_1 : AV) (l1_2 l1_3 l1_4 : AV) : LF := [none, (some (.lptr 1 0)), none, none, (some (.v (.str x_4))), oo, oo, oo, oo, oo, oo, oo, oo, oo, oo, oo, oo, oo, oo, oo, oo, oo, oo, oo, oo, oo, oo, oo, oo, oo, oo, oo, oo, oo, oo, oo, oo, oo, oo, oo, oo, oo, oo, oo, oo, oo, oo, oo, oo, oo, oo, oo, oo, oo, oo, oo, oo, oo, oo, oo, oo, oo, oo, oo, oo, oo, oo, oo, oo, oo, oo, (some (.v (.bool x_71))), oo, oo, oo, oo, oo, oo, oo, oo, oo, oo, oo, oo, oo, oo, oo, oo, oo, oo, oo, oo, oo, oo, oo, oo, oo, oo, oo, oo, oo, oo, oo, oo, oo]
def L78_5 (x_4 : List Nat) (x_71 : Bool) (l1_0 l1_1 : AV) (l1_2 l1_3 l1_4 : AV) : LL := [none, (some (.cells [l1_0, l1_1, l1_2, l1_3, l1_4])), oo, oo, oo, oo, oo, oo, oo, oo, oo, oo, oo, oo, oo, oo, oo, oo, oo, oo, oo, oo, oo, oo, oo, oo, oo, oo, oo, oo, oo, oo, oo, oo, oo, oo, oo, oo, oo, oo, oo, oo, oo, oo, oo, oo, oo, oo, oo, oo, oo, oo, oo, oo, oo, oo, oo, oo, oo, oo, oo, oo, oo, oo, oo, oo, oo, oo, oo, oo, oo, oo, oo, oo, oo, oo, oo, oo, oo, oo, oo, oo, oo, oo, oo, oo, oo, oo, oo, oo, oo, oo, oo, oo, oo, oo, oo, oo, oo, oo, oo, oo, oo, oo, oo]
theorem R78_1 (N : Nat) (call : CT) (h : H) : E78_1 N call T78_1 L78_1 h = S78_1 call h := by kernel_rfl
theorem Z78_1 (N : Nat) (call : CT) (h : H) : E78_1 N call T78_1 L78_1 h = C78_1 N call h := by
  have r := R78_1 N call h
  have z : S78_1 call h = C78_1 N call h := by kernel_rfl
  exact r.trans z
theorem R78_5 (N : Nat) (call : CT) (x_4 : List Nat) (x_71 : Bool) (l1_0 l1_1 : AV) (l1_2 l1_3 l1_4 : AV) (h : H) : E78_5 N call (T78_5 x_4 x_71 l1_0 l1_1 l1_2 l1_3 l1_4) (L78_5 x_4 x_71 l1_0 l1_1 l1_2 l1_3 l1_4) h = S78_5 call (fun  h => (E78_1 N call) T78_1 L78_1 h) x_4 x_71 l1_0 l1_1 l1_2 l1_3 l1_4 h := by kernel_rfl
theorem Z78_5 (N : Nat) (call : CT) (x_4 : List Nat) (x_71 : Bool) (l1_0 l1_1 : AV) (l1_2 l1_3 l1_4 : AV) (h : H) : E78_5 N call (T78_5 x_4 x_71 l1_0 l1_1 l1_2 l1_3 l1_4) (L78_5 x_4 x_71 l1_0 l1_1 l1_2 l1_3 l1_4) h = C78_5 N call x_4 x_71 l1_0 l1_1 l1_2 l1_3 l1_4 h := by
  have e1 : (fun  h => (E78_1 N call) T78_1 L78_1 h) = (C78_1 N call) := by
    funext  h
    exact Z78_1 N call h
  have r := R78_5 N call x_4 x_71 l1_0 l1_1 l1_2 l1_3 l1_4 h
  rw [e1] at r
  have z : S78_5 call (C78_1 N call) x_4 x_71 l1_0 l1_1 l1_2 l1_3 l1_4 h = C78_5 N call x_4 x_71 l1_0 l1_1 l1_2 l1_3 l1_4 h := by kernel_rfl
  exact r.trans z
theorem R78_4 (N : Nat) (call : CT) (x_4 : List Nat) (x_29 : Bool) (l1_0 l1_1 : AV) (l1_2 l1_3 l1_4 : AV) (h : H) : E78_4 N call (T78_4 x_4 x_29 l1_0 l1_1 l1_2 l1_3 l1_4) (L78_4 x_4 x_29 l1_0 l1_1 l1_2 l1_3 l1_4) h = S78_4 call (fun (x_4 : List Nat) (x_71 : Bool) (l1_0 l1_1 : AV) (l1_2 l1_3 l1_4 : AV) h => (E78_5 N call) (T78_5 x_4 x_71 l1_0 l1_1 l1_2 l1_3 l1_4) (L78_5 x_4 x_71 l1_0 l1_1 l1_2 l1_3 l1_4) h) x_4 x_29 l1_0 l1_1 l1_2 l1_3 l1_4 h := by kernel_rfl
theorem Z78_4 (N : Nat) (call : CT) (x_4 : List Nat) (x_29 : Bool) (l1_0 l1_1 : AV) (l1_2 l1_3 l1_4 : AV) (h : H) : E78_4 N call (T78_4 x_4 x_29 l1_0 l1_1 l1_2 l1_3 l1_4) (L78_4 x_4 x_29 l1_0 l1_1 l1_2 l1_3 l1_4) h = C78_4 N call x_4 x_29 l1_0 l1_1 l1_2 l1_3 l1_4 h := by
  have e5 : (fun (x_4 : List Nat) (x_71 : Bool) (l1_0 l1_1 : AV) (l1_2 l1_3 l1_4 : AV) h => (E78_5 N call) (T78_5 x_4 x_71 l1_0 l1_1 l1_2 l1_3 l1_4) (L78_5 x_4 x_71 l1_0 l1_1 l1_2 l1_3 l1_4) h) = (C78_5 N call) := by
    funext x_4 x_71 l1_0 l1_1 l1_2 l1_3 l1_4 h
    exact Z78_5 N call x_4 x_71 l1_0 l1_1 l1_2 l1_3 l1_4 h
  have r := R78_4 N call x_4 x_29 l1_0 l1_1 l1_2 l1_3 l1_4 h
  rw [e5] at r
  have z : S78_4 call (C78_5 N call) x_4 x_29 l1_0 l1_1 l1_2 l1_3 l1_4 h = C78_4 N call x_4 x_29 l1_0 l1_1 l1_2 l1_3 l1_4 h := by kernel_rfl
  exact r.trans z
theorem R78_3 (N : Nat) (call : CT) (x_4 : List Nat) (x_18 : Bool) (l1_0 l1_1 : AV) (l1_2 l1_3 l1_4 : AV) (h : H) : E78_3 N call (T78_3 x_4 x_18 l1_0 l1_1 l1_2 l1_3 l1_4) (L78_3 x_4 x_18 l1_0 l1_1 l1_2 l1_3 l1_4) h = S78_3 call (fun (x_4 : List Nat) (x_29 : Bool) (l1_0 l1_1 : AV) (l1_2 l1_3 l1_4 : AV) h => (E78_4 N call) (T78_4 x_4 x_29 l1_0 l1_1 l1_2 l1_3 l1_4) (L78_4 x_4 x_29 l1_0 l1_1 l1_2 l1_3 l1_4) h) x_4 x_18 l1_0 l1_1 l1_2 l1_3 l1_4 h := by kernel_rfl
theorem Z78_3 (N : Nat) (call : CT) (x_4 : List Nat) (x_18 : Bool) (l1_0 l1_1 : AV) (l1_2 l1_3 l1_4 : AV) (h : H) : E78_3 N call (T78_3 x_4 x_18 l1_0 l1_1 l1_2 l1_3 l1_4) (L78_3 x_4 x_18 l1_0 l1_1 l1_2 l1_3 l1_4) h = C78_3 N call x_4 x_18 l1_0 l1_1 l1_2 l1_3 l1_4 h := by
  have e4 : (fun (x_4 : List Nat) (x_29 : Bool) (l1_0 l1_1 : AV) (l1_2 l1_3 l1_4 : AV) h => (E78_4 N call) (T78_4 x_4 x_29 l1_0 l1_1 l1_2 l1_3 l1_4) (L78_4 x_4 x_29 l1_0 l1_1 l1_2 l1_3 l1_4) h) = (C78_4 N call) := by
    funext x_4 x_29 l1_0 l1_1 l1_2 l1_3 l1_4 h
    exact Z78_4 N call x_4 x_29 l1_0 l1_1 l1_2 l1_3 l1_4 h
  have r := R78_3 N call x_4 x_18 l1_0 l1_1 l1_2 l1_3 l1_4 h
  rw [e4] at r
  have z : S78_3 call (C78_4 N call) x_4 x_18 l1_0 l1_1 l1_2 l1_3 l1_4 h = C78_3 N call x_4 x_18 l1_0 l1_1 l1_2 l1_3 l1_4 h := by kernel_rfl
  exact r.trans z
theorem R78_2 (N : Nat) (call : CT) (x_4 : List Nat) (x_5 : Bool) (l1_0 l1_1 : AV) (l1_2 l1_3 l1_4 : AV) (h : H) : E78_2 N call (T78_2 x_4 x_5 l1_0 l1_1 l1_2 l1_3 l1_4) (L78_2 x_4 x_5 l1_0 l1_1 l1_2 l1_3 l1_4) h = S78_2 call (fun (x_4 : List Nat) (x_18 : Bool) (l1_0 l1_1 : AV) (l1_2 l1_3 l1_4 : AV) h => (E78_3 N call) (T78_3 x_4 x_18 l1_0 l1_1 l1_2 l1_3 l1_4) (L78_3 x_4 x_18 l1_0 l1_1 l1_2 l1_3 l1_4) h) x_4 x_5 l1_0 l1_1 l1_2 l1_3 l1_4 h := by kernel_rfl
theorem Z78_2 (N : Nat) (call : CT) (x_4 : List Nat) (x_5 : Bool) (l1_0 l1_1 : AV) (l1_2 l1_3 l1_4 : AV) (h : H) : E78_2 N call (T78_2 x_4 x_5 l1_0 l1_1 l1_2 l1_3 l1_4) (L78_2 x_4 x_5 l1_0 l1_1 l1_2 l1_3 l1_4) h = C78_2 N call x_4 x_5 l1_0 l1_1 l1_2 l1_3 l1_4 h := by
  have e3 : (fun (x_4 : List Nat) (x_18 : Bool) (l1_0 l1_1 : AV) (l1_2 l1_3 l1_4 : AV) h => (E78_3 N call) (T78_3 x_4 x_18 l1_0 l1_1 l1_2 l1_3 l1_4) (L78_3 x_4 x_18 l1_0 l1_1 l1_2 l1_3 l1_4) h) = (C78_3 N call) := by
    funext x_4 x_18 l1_0 l1_1 l1_2 l1_3 l1_4 h
    exact Z78_3 N call x_4 x_18 l1_0 l1_1 l1_2 l1_3 l1_4 h
  have r := R78_2 N call x_4 x_5 l1_0 l1_1 l1_2 l1_3 l1_4 h
  rw [e3] at r
  have z : S78_2 call (C78_3 N call) x_4 x_5 l1_0 l1_1 l1_2 l1_3 l1_4 h = C78_2 N call x_4 x_5 l1_0 l1_1 l1_2 l1_3 l1_4 h := by kernel_rfl
  exact r.trans z
theorem R78_0 (N : Nat) (call : CT) (y0 : AV) (h : H) : body Tryz.prog N call Tryz.f78 A78.an [y0] h = S78_0 call (fun (x_4 : List Nat) (x_5 : Bool) (l1_0 l1_1 : AV) (l1_2 l1_3 l1_4 : AV) h => (E78_2 N call) (T78_2 x_4 x_5 l1_0 l1_1 l1_2 l1_3 l1_4) (L78_2 x_4 x_5 l1_0 l1_1 l1_2 l1_3 l1_4) h) y0 h := by kernel_rfl
theorem Z78 (N : Nat) (call : CT) (y0 : AV) (h : H) : body Tryz.prog N call Tryz.f78 A78.an [y0] h = S78 N call y0 h := by
  have e2 : (fun (x_4 : List Nat) (x_5 : Bool) (l1_0 l1_1 : AV) (l1_2 l1_3 l1_4 : AV) h => (E78_2 N call) (T78_2 x_4 x_5 l1_0 l1_1 l1_2 l1_3 l1_4) (L78_2 x_4 x_5 l1_0 l1_1 l1_2 l1_3 l1_4) h) = (C78_2 N call) := by
    funext x_4 x_5 l1_0 l1_1 l1_2 l1_3 l1_4 h
    exact Z78_2 N call x_4 x_5 l1_0 l1_1 l1_2 l1_3 l1_4 h
  have r := R78_0 N call y0 h
  rw [e2] at r
  have z : S78_0 call (C78_2 N call) y0 h = S78 N call y0 h := by kernel_rfl
  exact r.trans z
theorem V78 (N : Nat) (call : CT) (vs : List AV) (h : H) : body Tryz.prog N call Tryz.f78 A78.an vs h = row1 (fun y0 => S78 N call y0 h) vs := wrap1 (by kernel_rfl) (fun y0 => Z78 N call y0 h) vs
/- (*sibyl/kinds.checker).call$1 -/
def A80.a0 : Ann := .items [.opL 0, .op 1]
def A80.a1 : Ann := .items [.op 0, .op 1, .op 2, .op 3, .op 4, .op 5]
def A80.a2 : Ann := .leaf
def A80.a3 : Ann := .two A80.a1 A80.a2
def A80.an : Ann := .two A80.a0 A80.a3
def S80_0 (call : CT) (y0 y1 : AV) (h : H) : R :=
  onAgR y0 (fun l9 => row8 (fun x1 x2 x3 x4 x5 x6 x7 x8 => onPtr y1 (fun p10 => onSome p10 (fun b11 o12 => onStr x1 (fun s13 => ldK h b11 (o12 + 1) 1 (one (fun v14 => onStr v14 (fun s15 => some ((.bool (eqS s13 s15)), h)))))))) l9)
def S80 (N : Nat) (call : CT) (y0 y1 : AV) (h : H) : R := S80_0 call y0 y1 h
theorem R80_0 (N : Nat) (call : CT) (y0 y1 : AV) (h : H) : body Tryz.prog N call Tryz.f80 A80.an [y0, y1] h = S80_0 call y0 y1 h := by kernel_rfl
theorem Z80 (N : Nat) (call : CT) (y0 y1 : AV) (h : H) : body Tryz.prog N call Tryz.f80 A80.an [y0, y1] h = S80 N call y0 y1 h := by
  have r := R80_0 N call y0 y1 h
  have z : S80_0 call y0 y1 h = S80 N call y0 y1 h := by kernel_rfl
  exact r.trans z
theorem V80 (N : Nat) (call : CT) (vs : List AV) (h : H) : body Tryz.prog N call Tryz.f80 A80.an vs h = row2 (fun y0 y1 => S80 N call y0 y1 h) vs := wrap2 (by kernel_rfl) (fun y0 y1 => Z80 N call y0 y1 h) vs
/- sibyl/kinds.Kind -/
def A81.a0 : Ann := .items [.opL 0, .op 1, .op 2, .op 3]
def A81.a1 : Ann := .items [.op 0, .op 1]
def A81.a2 : Ann := .items [.op 0, .op 1]
def A81.a3 : Ann := .items [.op 0, .op 1, .op 2, .op 3, .op 4]
def A81.a4 : Ann := .items [.op 0, .op 1]
def A81.a5 : Ann := .drawn [.op 0, .op 1, .op 2, .op 3, .op 4]
def A81.a6 : Ann := .leaf
def A81.a7 : Ann := .two A81.a5 A81.a6
def A81.a8 : Ann := .leaf
def A81.a9 : Ann := .two A81.a7 A81.a8
def A81.a10 : Ann := .two A81.a4 A81.a9
def A81.a11 : Ann := .items [.op 0, .op 1, .op 2, .op 3]
def A81.a12 : Ann := .leaf
def A81.a13 : Ann := .two A81.a11 A81.a12
def A81.a14 : Ann := .two A81.a10 A81.a13
def A81.a15 : Ann := .two A81.a3 A81.a14
def A81.a16 : Ann := .items [.op 0, .op 1]
def A81.a17 : Ann := .items [.op 0, .op 1, .op 2]
def A81.a18 : Ann := .leaf
def A81.a19 : Ann := .two A81.a17 A81.a18
def A81.a20 : Ann := .items [.op 0, .op 1]
def A81.a21 : Ann := .items [.op 0, .op 1, .op 2, .op 3, .op 4, .op 5, .op 6, .op 7, .op 8, .op 9, .op 10, .op 11, .op 12]
def A81.a22 : Ann := .items [.op 0, .op 1]
def A81.a23 : Ann := .items [.op 0, .op 1, .op 2, .op 3, .op 4]
def A81.a24 : Ann := .leaf
def A81.a25 : Ann := .two A81.a23 A81.a24
def A81.a26 : Ann := .leaf
def A81.a27 : Ann := .two A81.a25 A81.a26
def A81.a28 : Ann := .two A81.a22 A81.a27
def A81.a29 : Ann := .items [.op 0, .op 1]
def A81.a30 : Ann := .drawn [.op 0, .op 1, .op 2, .op 3, .op 4]
def A81.a31 : Ann := .leaf
def A81.a32 : Ann := .two A81.a30 A81.a31
def A81.a33 : Ann := .leaf
def A81.a34 : Ann := .two A81.a32 A81.a33
def A81.a35 : Ann := .two A81.a29 A81.a34
def A81.a36 : Ann := .items [.op 0, .op 1, .op 2]
def A81.a37 : Ann := .leaf
def A81.a38 : Ann := .two A81.a36 A81.a37
def A81.a39 : Ann := .two A81.a35 A81.a38
def A81.a40 : Ann := .two A81.a28 A81.a39
def A81.a41 : Ann := .two A81.a21 A81.a40
def A81.a42 : Ann := .leaf
def A81.a43 : Ann := .two A81.a41 A81.a42
def A81.a44 : Ann := .two A81.a20 A81.a43
def A81.a45 : Ann := .two A81.a19 A81.a44
def A81.a46 : Ann := .two A81.a16 A81.a45
def A81.a47 : Ann := .two A81.a15 A81.a46
def A81.a48 : Ann := .two A81.a2 A81.a47
def A81.a49 : Ann := .one A81.a48
def A81.a50 : Ann := .two A81.a1 A81.a49
def A81.a51 : Ann := .items [.op 0]
def A81.a52 : Ann := .items [.op 0, .op 1, .op 2]
def A81.a53 : Ann := .items [.op 0]
def A81.a54 : Ann := .leaf
def A81.a55 : Ann := .two A81.a53 A81.a54
def A81.a56 : Ann := .two A81.a52 A81.a55
def A81.a57 : Ann := .items [.op 0, .op 1, .op 2, .op 3, .op 4, .op 5, .op 6, .op 7, .op 8, .op 9]
def A81.a58 : Ann := .items [.op 0, .op 1]
def A81.a59 : Ann := .items [.op 0, .op 1, .op 2, .op 3, .op 4]
def A81.a60 : Ann := .leaf
def A81.a61 : Ann := .two A81.a59 A81.a60
def A81.a62 : Ann := .leaf
def A81.a63 : Ann := .two A81.a61 A81.a62
def A81.a64 : Ann := .two A81.a58 A81.a63
def A81.a65 : Ann := .items [.op 0, .op 1, .op 2]
def A81.a66 : Ann := .leaf
def A81.a67 : Ann := .two A81.a65 A81.a66
def A81.a68 : Ann := .two A81.a64 A81.a67
def A81.a69 : Ann := .two A81.a57 A81.a68
def A81.a70 : Ann := .join [0, 3, 10] [3] A81.a56 A81.a69
def A81.a71 : Ann := .two A81.a51 A81.a70
def A81.a72 : Ann := .two A81.a50 A81.a71
def A81.an : Ann := .two A81.a0 A81.a72
def E81_1 (N : Nat) (call : CT) : K3 :=
  (codeK Tryz.prog N call (c2 (c2 (c2 (c2 (bodyOf Tryz.f81))))) A81.a69 (resK Tryz.prog Tryz.f81.results.toList) (fun _ _ _ _ => none) (resK Tryz.prog Tryz.f81.results.toList))
def S81_1 (call : CT) (a_0 : OA) (n_0 : Nat) (c_0 : Option Nat) (x_10 : Int) (l3_0 l3_1 : AV) (l3_2 l3_3 l3_4 : AV) (h : H) : R :=
  onSlice l3_4 (fun a1 n2 c3 => bindR (call 106 [(.slice a_0 n_0 c_0), (.slice a1 n2 c3), (.int .i64 x_10)] h) (fun v4 h5 => onTuple v4 0 (fun v6 => onInt .i64 v6 (fun i7 => onTuple v4 1 (fun v8 => onInt .i64 v8 (fun i9 => ifB (!eqI i9 (Int.ofNat 0)) (some (.tuple [(.int .i64 (Int.ofNat 0)), (.int .i64 i7), (.int .i64 i9)], h5)) (some (.tuple [(.int .i64 (Int.ofNat 2)), (.int .i64 (Int.ofNat 0)), (.int .i64 (Int.ofNat 0))], h5))))))))
def S81_0 (call : CT) (k1 : OA → Nat → Option Nat → Int → AV → AV → AV → AV → AV → H → R) (y0 y1 : AV) (h : H) : R :=
  onSlice y0 (fun a1 n2 c3 => onAgR y1 (fun l9 => row5 (fun x4 x5 x6 x7 x8 => onStr x4 (fun s10 => ifB (eqS s10 [118, 97, 114]) (onStr x5 (fun s11 => bindR (call 44 [(.slice a1 n2 c3), (.str s11)] h) (fun v12 h13 => onInt .i64 v12 (fun i14 => ifB (ltI i14 (Int.ofNat 0)) (onInt .i64 x7 (fun i15 => some (.tuple [(.int .i64 (Int.ofNat 0)), (.int .i64 i15), (.int .i64 (Int.ofNat 5))], h13))) (some (.tuple [(.int .i64 i14), (.int .i64 (Int.ofNat 0)), (.int .i64 (Int.ofNat 0))], h13)))))) (ifB (eqS s10 [110, 117, 109]) (some (.tuple [(.int .i64 (Int.ofNat 1)), (.int .i64 (Int.ofNat 0)), (.int .i64 (Int.ofNat 0))], h)) (ifB (eqS s10 [112, 108, 117, 115]) (onSlice x8 (fun a16 n17 c18 => idxAddr 5 a16 n17 (Int.ofNat 0) (fun b19 o20 => ldK h b19 o20 5 (fun l21 => row5 (fun x22 x23 x24 x25 x26 => bindR (call 81 [(.slice a1 n2 c3), (.agg [x22, x23, x24, x25, x26])] h) (fun v27 h28 => onTuple v27 0 (fun v29 => onInt .i64 v29 (fun i30 => onTuple v27 1 (fun v31 => onInt .i64 v31 (fun i32 => onTuple v27 2 (fun v33 => onInt .i64 v33 (fun i34 => ifB (!eqI i34 (Int.ofNat 0)) (some (.tuple [(.int .i64 (Int.ofNat 0)), (.int .i64 i32), (.int .i64 i34)], h28)) (ifB (!eqI i30 (Int.ofNat 1)) (onInt .i64 x7 (fun i35 => some (.tuple [(.int .i64 (Int.ofNat 0)), (.int .i64 i35), (.int .i64 (Int.ofNat 7))], h28))) (some (.tuple [(.int .i64 (Int.ofNat 1)), (.int .i64 (Int.ofNat 0)), (.int .i64 (Int.ofNat 0))], h28))))))))))) l21)))) (onStr x4 (fun s36 => ifB (eqS s36 [115, 101, 116]) (k1 a1 n2 c3 (Int.ofNat 1) x4 x5 x6 x7 x8 h) (k1 a1 n2 c3 (Int.ofNat 2) x4 x5 x6 x7 x8 h))))))) l9))
def C81_1 (N : Nat) (call : CT) : OA → Nat → Option Nat → Int → AV → AV → AV → AV → AV → H → R := S81_1 call
def S81 (N : Nat) (call : CT) (y0 y1 : AV) (h : H) : R := S81_0 call (C81_1 N call) y0 y1 h
def T81_1 (a_0 : OA) (n_0 : Nat) (c_0 : Option Nat) (x_10 : Int) (l3_0 l3_1 : AV) (l3_2 l3_3 l3_4 : AV) : LF := [(some (.v (.slice a_0 n_0 c_0))), none, none, (some (.lptr 3 0)), oo, oo, oo, oo, oo, oo, (some (.v (.int .i64 x_10))), oo, oo, oo, oo, oo, oo, oo, oo, oo, oo, oo, oo, oo, oo, oo, oo, oo, oo, oo, oo, oo, oo, oo, oo, oo, oo, oo, oo, oo, oo, oo, oo, oo, oo, oo, oo, oo, oo, oo, oo, oo, oo, oo, oo, oo, oo, oo, oo, oo, oo]
def L81_1 (a_0 : OA) (n_0 : Nat) (c_0 : Option Nat) (x_10 : Int) (l3_0 l3_1 : AV) (l3_2 l3_3 l3_4 : AV) : LL := [oo, oo, oo, (some (.cells [l3_0, l3_1, l3_2, l3_3, l3_4])), oo, oo, oo, oo, oo, oo, oo, oo, oo, oo, oo, oo, oo, oo, oo, oo, oo, oo, oo, oo, oo, oo, oo, oo, oo, oo, oo, oo, oo, oo, oo, oo, oo, oo, oo, oo, oo, oo, oo, oo, oo, oo, oo, oo, oo, oo, oo, oo, oo, oo, oo, oo, oo, oo, oo, oo, oo]
theorem W81_1 (N : Nat) (call : CT) : E81_1 N call = (codeK Tryz.prog N call (c1 (c2 (c2 (c2 (c2 (bodyOf Tryz.f81)))))) A81.a57 (codeK Tryz.prog N call (c1 (c1 (c2 (c2 (c2 (c2 (c2 (bodyOf Tryz.f81)))))))) A81.a58 (codeK Tryz.prog N call (c2 (c1 (c2 (c2 (c2 (c2 (c2 (bodyOf Tryz.f81)))))))) A81.a63 (codeK Tryz.prog N call (c1 (c2 (c2 (c2 (c2 (c2 (c2 (bodyOf Tryz.f81)))))))) A81.a65 (codeK Tryz.prog N call (c2 (c2 (c2 (c2 (c2 (c2 (c2 (bodyOf Tryz.f81)))))))) A81.a66 (resK Tryz.prog Tryz.f81.results.toList) (fun _ _ _ _ => none) (resK Tryz.prog Tryz.f81.results.toList)) (fun _ _ _ _ => none) (resK Tryz.prog Tryz.f81.results.toList)) (fun _ _ _ _ => none) (resK Tryz.prog Tryz.f81.results.toList)) (fun _ _ _ _ => none) (resK Tryz.prog Tryz.f81.results.toList)) (fun _ _ _ _ => none) (resK Tryz.prog Tryz.f81.results.toList)) := by kernel_rfl
theorem P81_1 (N : Nat) (call : CT) (a_0 : OA) (n_0 : Nat) (c_0 : Option Nat) (x_10 : Int) (l3_0 l3_1 : AV) (l3_2 l3_3 l3_4 : AV) (h : H) : (codeK Tryz.prog N call (c1 (c2 (c2 (c2 (c2 (bodyOf Tryz.f81)))))) A81.a57 (codeK Tryz.prog N call (c1 (c1 (c2 (c2 (c2 (c2 (c2 (bodyOf Tryz.f81)))))))) A81.a58 (codeK Tryz.prog N call (c2 (c1 (c2 (c2 (c2 (c2 (c2 (bodyOf Tryz.f81)))))))) A81.a63 (codeK Tryz.prog N call (c1 (c2 (c2 (c2 (c2 (c2 (c2 (bodyOf Tryz.f81)))))))) A81.a65 (codeK Tryz.prog N call (c2 (c2 (c2 (c2 (c2 (c2 (c2 (bodyOf Tryz.f81)))))))) A81.a66 (resK Tryz.prog Tryz.f81.results.toList) (fun _ _ _ _ => none) (resK Tryz.prog Tryz.f81.results.toList)) (fun _ _ _ _ => none) (resK Tryz.prog Tryz.f81.results.toList)) (fun _ _ _ _ => none) (resK Tryz.prog Tryz.f81.results.toList)) (fun _ _ _ _ => none) (resK Tryz.prog Tryz.f81.results.toList)) (fun _ _ _ _ => none) (resK Tryz.prog Tryz.f81.results.toList)) (T81_1 a_0 n_0 c_0 x_10 l3_0 l3_1 l3_2 l3_3 l3_4) (L81_1 a_0 n_0 c_0 x_10 l3_0 l3_1 l3_2 l3_3 l3_4) h = S81_1 call a_0 n_0 c_0 x_10 l3_0 l3_1 l3_2 l3_3 l3_4 h := by kernel_rfl
theorem R81_1 (N : Nat) (call : CT) (a_0 : OA) (n_0 : Nat) (c_0 : Option Nat) (x_10 : Int) (l3_0 l3_1 : AV) (l3_2 l3_3 l3_4 : AV) (h : H) : E81_1 N call (T81_1 a_0 n_0 c_0 x_10 l3_0 l3_1 l3_2 l3_3 l3_4) (L81_1 a_0 n_0 c_0 x_10 l3_0 l3_1 l3_2 l3_3 l3_4) h = S81_1 call a_0 n_0 c_0 x_10 l3_0 l3_1 l3_2 l3_3 l3_4 h := (congrFun (congrFun (congrFun (W81_1 N call) _) _) _).trans (P81_1 N call a_0 n_0 c_0 x_10 l3_0 l3_1 l3_2 l3_3 l3_4 h)
theorem Z81_1 (N : Nat) (call : CT) (a_0 : OA) (n_0 : Nat) (c_0 : Option Nat) (x_10 : Int) (l3_0 l3_1 : AV) (l3_2 l3_3 l3_4 : AV) (h : H) : E81_1 N call (T81_1 a_0 n_0 c_0 x_10 l3_0 l3_1 l3_2 l3_3 l3_4) (L81_1 a_0 n_0 c_0 x_10 l3_0 l3_1 l3_2 l3_3 l3_4) h = C81_1 N call a_0 n_0 c_0 x_10 l3_0 l3_1 l3_2 l3_3 l3_4 h := by
  have r := R81_1 N call a_0 n_0 c_0 x_10 l3_0 l3_1 l3_2 l3_3 l3_4 h
  have z : S81_1 call a_0 n_0 c_0 x_10 l3_0 l3_1 l3_2 l3_3 l3_4 h = C81_1 N call a_0 n_0 c_0 x_10 l3_0 l3_1 l3_2 l3_3 l3_4 h := by kernel_rfl
  exact r.trans z
theorem W81_0 (N : Nat) (call : CT) : codeK Tryz.prog N call (bodyOf Tryz.f81) A81.an (resK Tryz.prog Tryz.f81.results.toList) (fun _ _ _ _ => none) (resK Tryz.prog Tryz.f81.results.toList) = (codeK Tryz.prog N call (c1 (bodyOf Tryz.f81)) A81.a0 (codeK Tryz.prog N call (c1 (c1 (c2 (bodyOf Tryz.f81)))) A81.a1 (codeK Tryz.prog N call (c1 (c1 (c2 (c1 (c2 (bodyOf Tryz.f81)))))) A81.a2 (codeK Tryz.prog N call (c2 (c1 (c2 (c1 (c2 (bodyOf Tryz.f81)))))) A81.a47 (codeK Tryz.prog N call (c1 (c2 (c2 (bodyOf Tryz.f81)))) A81.a51 (codeK Tryz.prog N call (c1 (c1 (c2 (c2 (c2 (bodyOf Tryz.f81)))))) A81.a52 (codeK Tryz.prog N call (c2 (c1 (c2 (c2 (c2 (bodyOf Tryz.f81)))))) A81.a55 (fun T L h => (E81_1 N call) (keepT [0, 3, 10] T) (keepL [3] L) h) (fun _ _ _ _ => none) (resK Tryz.prog Tryz.f81.results.toList)) (fun _ _ _ _ => none) (resK Tryz.prog Tryz.f81.results.toList)) (fun _ _ _ _ => none) (resK Tryz.prog Tryz.f81.results.toList)) (fun i T L h => match Nat.beq i 0 with | true => (codeK Tryz.prog N call (c1 (c2 (c2 (bodyOf Tryz.f81)))) A81.a51 (codeK Tryz.prog N call (c1 (c1 (c2 (c2 (c2 (bodyOf Tryz.f81)))))) A81.a52 (codeK Tryz.prog N call (c2 (c1 (c2 (c2 (c2 (bodyOf Tryz.f81)))))) A81.a55 (fun T L h => (E81_1 N call) (keepT [0, 3, 10] T) (keepL [3] L) h) (fun _ _ _ _ => none) (resK Tryz.prog Tryz.f81.results.toList)) (fun _ _ _ _ => none) (resK Tryz.prog Tryz.f81.results.toList)) (fun _ _ _ _ => none) (resK Tryz.prog Tryz.f81.results.toList)) T L h | false => (fun _ _ _ _ => none) i T L h) (resK Tryz.prog Tryz.f81.results.toList)) (fun i T L h => match Nat.beq i 0 with | true => (codeK Tryz.prog N call (c1 (c2 (c2 (bodyOf Tryz.f81)))) A81.a51 (codeK Tryz.prog N call (c1 (c1 (c2 (c2 (c2 (bodyOf Tryz.f81)))))) A81.a52 (codeK Tryz.prog N call (c2 (c1 (c2 (c2 (c2 (bodyOf Tryz.f81)))))) A81.a55 (fun T L h => (E81_1 N call) (keepT [0, 3, 10] T) (keepL [3] L) h) (fun _ _ _ _ => none) (resK Tryz.prog Tryz.f81.results.toList)) (fun _ _ _ _ => none) (resK Tryz.prog Tryz.f81.results.toList)) (fun _ _ _ _ => none) (resK Tryz.prog Tryz.f81.results.toList)) T L h | false => (fun _ _ _ _ => none) i T L h) (resK Tryz.prog Tryz.f81.results.toList)) (fun _ _ _ _ => none) (resK Tryz.prog Tryz.f81.results.toList)) (fun _ _ _ _ => none) (resK Tryz.prog Tryz.f81.results.toList)) := by kernel_rfl
theorem P81_0 (N : Nat) (call : CT) (J1 : K3) (y0 y1 : AV) (h : H) : bodyK Tryz.prog Tryz.f81 (codeK Tryz.prog N call (c1 (bodyOf Tryz.f81)) A81.a0 (codeK Tryz.prog N call (c1 (c1 (c2 (bodyOf Tryz.f81)))) A81.a1 (codeK Tryz.prog N call (c1 (c1 (c2 (c1 (c2 (bodyOf Tryz.f81)))))) A81.a2 (codeK Tryz.prog N call (c2 (c1 (c2 (c1 (c2 (bodyOf Tryz.f81)))))) A81.a47 (codeK Tryz.prog N call (c1 (c2 (c2 (bodyOf Tryz.f81)))) A81.a51 (codeK Tryz.prog N call (c1 (c1 (c2 (c2 (c2 (bodyOf Tryz.f81)))))) A81.a52 (codeK Tryz.prog N call (c2 (c1 (c2 (c2 (c2 (bodyOf Tryz.f81)))))) A81.a55 (fun T L h => J1 (keepT [0, 3, 10] T) (keepL [3] L) h) (fun _ _ _ _ => none) (resK Tryz.prog Tryz.f81.results.toList)) (fun _ _ _ _ => none) (resK Tryz.prog Tryz.f81.results.toList)) (fun _ _ _ _ => none) (resK Tryz.prog Tryz.f81.results.toList)) (fun i T L h => match Nat.beq i 0 with | true => (codeK Tryz.prog N call (c1 (c2 (c2 (bodyOf Tryz.f81)))) A81.a51 (codeK Tryz.prog N call (c1 (c1 (c2 (c2 (c2 (bodyOf Tryz.f81)))))) A81.a52 (codeK Tryz.prog N call (c2 (c1 (c2 (c2 (c2 (bodyOf Tryz.f81)))))) A81.a55 (fun T L h => J1 (keepT [0, 3, 10] T) (keepL [3] L) h) (fun _ _ _ _ => none) (resK Tryz.prog Tryz.f81.results.toList)) (fun _ _ _ _ => none) (resK Tryz.prog Tryz.f81.results.toList)) (fun _ _ _ _ => none) (resK Tryz.prog Tryz.f81.results.toList)) T L h | false => (fun _ _ _ _ => none) i T L h) (resK Tryz.prog Tryz.f81.results.toList)) (fun i T L h => match Nat.beq i 0 with | true => (codeK Tryz.prog N call (c1 (c2 (c2 (bodyOf Tryz.f81)))) A81.a51 (codeK Tryz.prog N call (c1 (c1 (c2 (c2 (c2 (bodyOf Tryz.f81)))))) A81.a52 (codeK Tryz.prog N call (c2 (c1 (c2 (c2 (c2 (bodyOf Tryz.f81)))))) A81.a55 (fun T L h => J1 (keepT [0, 3, 10] T) (keepL [3] L) h) (fun _ _ _ _ => none) (resK Tryz.prog Tryz.f81.results.toList)) (fun _ _ _ _ => none) (resK Tryz.prog Tryz.f81.results.toList)) (fun _ _ _ _ => none) (resK Tryz.prog Tryz.f81.results.toList)) T L h | false => (fun _ _ _ _ => none) i T L h) (resK Tryz.prog Tryz.f81.results.toList)) (fun _ _ _ _ => none) (resK Tryz.prog Tryz.f81.results.toList)) (fun _ _ _ _ => none) (resK Tryz.prog Tryz.f81.results.toList)) [y0, y1] h = S81_0 call (fun (a_0 : OA) (n_0 : Nat) (c_0 : Option Nat) (x_10 : Int) (l3_0 l3_1 : AV) (l3_2 l3_3 l3_4 : AV) h => J1 (T81_1 a_0 n_0 c_0 x_10 l3_0 l3_1 l3_2 l3_3 l3_4) (L81_1 a_0 n_0 c_0 x_10 l3_0 l3_1 l3_2 l3_3 l3_4) h) y0 y1 h := by kernel_rfl
theorem R81_0 (N : Nat) (call : CT) (y0 y1 : AV) (h : H) : body Tryz.prog N call Tryz.f81 A81.an [y0, y1] h = S81_0 call (fun (a_0 : OA) (n_0 : Nat) (c_0 : Option Nat) (x_10 : Int) (l3_0 l3_1 : AV) (l3_2 l3_3 l3_4 : AV) h => (E81_1 N call) (T81_1 a_0 n_0 c_0 x_10 l3_0 l3_1 l3_2 l3_3 l3_4) (L81_1 a_0 n_0 c_0 x_10 l3_0 l3_1 l3_2 l3_3 l3_4) h) y0 y1 h := (body_eq Tryz.prog N call Tryz.f81 A81.an [y0, y1] h (W81_0 N call)).trans (P81_0 N call (E81_1 N call) y0 y1 h)
theorem Z81 (N : Nat) (call : CT) (y0 y1 : AV) (h : H) : body Tryz.prog N call Tryz.f81 A81.an [y0, y1] h = S81 N call y0 y1 h := by
  have e1 : (fun (a_0 : OA) (n_0 : Nat) (c_0 : Option Nat) (x_10 : Int) (l3_0 l3_1 : AV) (l3_2 l3_3 l3_4 : AV) h => (E81_1 N call) (T81_1 a_0 n_0 c_0 x_10 l3_0 l3_1 l3_2 l3_3 l3_4) (L81_1 a_0 n_0 c_0 x_10 l3_0 l3_1 l3_2 l3_3 l3_4) h) = (C81_1 N call) := by
    funext a_0 n_0 c_0 x_10 l3_0 l3_1 l3_2 l3_3 l3_4 h
    exact Z81_1 N call a_0 n_0 c_0 x_10 l3_0 l3_1 l3_2 l3_3 l3_4 h
  have r := R81_0 N call y0 y1 h
  rw [e1] at r
  have z : S81_0 call (C81_1 N call) y0 y1 h = S81 N call y0 y1 h := by kernel_rfl
  exact r.trans z
theorem V81 (N : Nat) (call : CT) (vs : List AV) (h : H) : body Tryz.prog N call Tryz.f81 A81.an vs h = row2 (fun y0 y1 => S81 N call y0 y1 h) vs := wrap2 (by kernel_rfl) (fun y0 y1 => Z81 N call y0 y1 h) vs
/- sibyl/kinds.wants -/
def A82.a0 : Ann := .items [.opL 0]
def A82.a1 : Ann := .items [.op 0]
def A82.a2 : Ann := .items [.op 0, .op 1]
def A82.a3 : Ann := .leaf
def A82.a4 : Ann := .items [.op 0, .op 1]
def A82.a5 : Ann := .two A82.a3 A82.a4
def A82.a6 : Ann := .two A82.a2 A82.a5
def A82.a7 : Ann := .items [.op 0, .op 1]
def A82.a8 : Ann := .leaf
def A82.a9 : Ann := .two A82.a7 A82.a8
def A82.a10 : Ann := .items [.op 0, .op 1]
def A82.a11 : Ann := .leaf
def A82.a12 : Ann := .items [.op 0, .op 1]
def A82.a13 : Ann := .two A82.a11 A82.a12
def A82.a14 : Ann := .two A82.a10 A82.a13
def A82.a15 : Ann := .items [.op 0, .op 1]
def A82.a16 : Ann := .leaf
def A82.a17 : Ann := .two A82.a15 A82.a16
def A82.a18 : Ann := .leaf
def A82.a19 : Ann := .two A82.a17 A82.a18
def A82.a20 : Ann := .join [2, 8] [2] A82.a14 A82.a19
def A82.a21 : Ann := .two A82.a9 A82.a20
def A82.a22 : Ann := .join [2, 3, 4] [2] A82.a6 A82.a21
def A82.a23 : Ann := .one A82.a22
def A82.a24 : Ann := .two A82.a1 A82.a23
def A82.a25 : Ann := .items [.op 0, .op 1]
def A82.a26 : Ann := .leaf
def A82.a27 : Ann := .two A82.a25 A82.a26
def A82.a28 : Ann := .join [2] [2] A82.a24 A82.a27
def A82.an : Ann := .two A82.a0 A82.a28
def E82_1 (N : Nat) (call : CT) : K3 :=
  (codeK Tryz.prog N call (c2 (c2 (bodyOf Tryz.f82))) A82.a27 (resK Tryz.prog Tryz.f82.results.toList) (fun _ _ _ _ => none) (resK Tryz.prog Tryz.f82.results.toList))
def E82_2 (N : Nat) (call : CT) : K3 :=
  (codeK Tryz.prog N call (c2 (c1 (c2 (c1 (c2 (bodyOf Tryz.f82)))))) A82.a21 (fun T L h => (E82_1 N call) (keepT [2] T) (keepL [2] L) h) (fun i T L h => match Nat.beq i 0 with | true => (fun T L h => (E82_1 N call) (keepT [2] T) (keepL [2] L) h) T L h | false => (fun _ _ _ _ => none) i T L h) (resK Tryz.prog Tryz.f82.results.toList))
def E82_3 (N : Nat) (call : CT) : K3 :=
  (codeK Tryz.prog N call (c2 (c2 (c2 (c1 (c2 (c1 (c2 (bodyOf Tryz.f82)))))))) A82.a19 (fun T L h => (E82_1 N call) (keepT [2] T) (keepL [2] L) h) (fun i T L h => match Nat.beq i 0 with | true => (fun T L h => (E82_1 N call) (keepT [2] T) (keepL [2] L) h) T L h | false => (fun _ _ _ _ => none) i T L h) (resK Tryz.prog Tryz.f82.results.toList))
def S82_1 (call : CT) (l2_0 l2_1 : AV) (h : H) : R :=
  some ((.agg [(.int .i64 (Int.ofNat 2)), (.int .i64 (Int.ofNat 2))]), h)
def S82_2 (call : CT) (k3 : Bool → AV → AV → H → R) (x_3 : List Nat) (x_4 : Bool) (l2_0 l2_1 : AV) (h : H) : R :=
  ifB x_4 (some ((.agg [(.int .i64 (Int.ofNat 1)), (.int .i64 (Int.ofNat 1))]), h)) (ifB (eqS x_3 [105, 110]) (k3 (eqS x_3 [105, 110]) l2_0 l2_1 h) (k3 (eqS x_3 [110, 111, 116, 105, 110]) l2_0 l2_1 h))
def S82_3 (call : CT) (k1 : AV → AV → H → R) (x_8 : Bool) (l2_0 l2_1 : AV) (h : H) : R :=
  ifB x_8 (some ((.agg [(.int .i64 (Int.ofNat 1)), (.int .i64 (Int.ofNat 2))]), h)) (k1 l2_0 l2_1 h)
def S82_0 (call : CT) (k2 : List Nat → Bool → AV → AV → H → R) (y0 : AV) (h : H) : R :=
  onStr y0 (fun s1 => ifB (eqS s1 [108, 116]) (k2 s1 (eqS s1 [108, 116]) (.int .i64 (Int.ofNat 0)) (.int .i64 (Int.ofNat 0)) h) (k2 s1 (eqS s1 [108, 101]) (.int .i64 (Int.ofNat 0)) (.int .i64 (Int.ofNat 0)) h))
def C82_1 (N : Nat) (call : CT) : AV → AV → H → R := S82_1 call
def C82_3 (N : Nat) (call : CT) : Bool → AV → AV → H → R := S82_3 call (C82_1 N call)
def C82_2 (N : Nat) (call : CT) : List Nat → Bool → AV → AV → H → R := S82_2 call (C82_3 N call)
def S82 (N : Nat) (call : CT) (y0 : AV) (h : H) : R := S82_0 call (C82_2 N call) y0 h
def T82_1 (l2_0 l2_1 : AV) : LF := [none, none, (some (.lptr 2 0)), oo, oo, oo, oo, oo, oo, oo, oo, oo, oo]
def L82_1 (l2_0 l2_1 : AV) : LL := [none, none, (some (.cells [l2_0, l2_1])), oo, oo, oo, oo, oo, oo, oo, oo, oo, oo]
def T82_2 (x_3 : List Nat) (x_4 : Bool) (l2_0 l2_1 : AV) : LF := [none, none, (some (.lptr 2 0)), (some (.v (.str x_3))), (some (.v (.bool x_4))), oo, oo, oo, oo, oo, oo, oo, oo]
def L82_2 (x_3 : List Nat) (x_4 : Bool) (l2_0 l2_1 : AV) : LL := [none, none, (some (.cells [l2_0, l2_1])), oo, oo, oo, oo, oo, oo, oo, oo, oo, oo]
def T82_3 (x_8 : Bool) (l2_0 l2_1 : AV) : LF := [none, none, (some (.lptr 2 0)), oo, oo, oo, oo, oo, (some (.v (.bool x_8))), oo, oo, oo, oo]
def L82_3 (x_8 : Bool) (l2_0 l2_1 : AV) : LL := [none, none, (some (.cells [l2_0, l2_1])), oo, oo, oo, oo, oo, oo, oo, oo, oo, oo]
theorem R82_1 (N : Nat) (call : CT) (l2_0 l2_1 : AV) (h : H) : E82_1 N call (T82_1 l2_0 l2_1) (L82_1 l2_0 l2_1) h = S82_1 call l2_0 l2_1 h := by kernel_rfl
theorem Z82_1 (N : Nat) (call : CT) (l2_0 l2_1 : AV) (h : H) : E82_1 N call (T82_1 l2_0 l2_1) (L82_1 l2_0 l2_1) h = C82_1 N call l2_0 l2_1 h := by
  have r := R82_1 N call l2_0 l2_1 h
  have z : S82_1 call l2_0 l2_1 h = C82_1 N call l2_0 l2_1 h := by kernel_rfl
  exact r.trans z
theorem R82_3 (N : Nat) (call : CT) (x_8 : Bool) (l2_0 l2_1 : AV) (h : H) : E82_3 N call (T82_3 x_8 l2_0 l2_1) (L82_3 x_8 l2_0 l2_1) h = S82_3 call (fun (l2_0 l2_1 : AV) h => (E82_1 N call) (T82_1 l2_0 l2_1) (L82_1 l2_0 l2_1) h) x_8 l2_0 l2_1 h := by kernel_rfl
theorem Z82_3 (N : Nat) (call : CT) (x_8 : Bool) (l2_0 l2_1 : AV) (h : H) : E82_3 N call (T82_3 x_8 l2_0 l2_1) (L82_3 x_8 l2_0 l2_1) h = C82_3 N call x_8 l2_0 l2_1 h := by
  have e1 : (fun (l2_0 l2_1 : AV) h => (E82_1 N call) (T82_1 l2_0 l2_1) (L82_1 l2_0 l2_1) h) = (C82_1 N call) := by
    funext l2_0 l2_1 h
    exact Z82_1 N call l2_0 l2_1 h
  have r := R82_3 N call x_8 l2_0 l2_1 h
  rw [e1] at r
  have z : S82_3 call (C82_1 N call) x_8 l2_0 l2_1 h = C82_3 N call x_8 l2_0 l2_1 h := by kernel_rfl
  exact r.trans z
theorem R82_2 (N : Nat) (call : CT) (x_3 : List Nat) (x_4 : Bool) (l2_0 l2_1 : AV) (h : H) : E82_2 N call (T82_2 x_3 x_4 l2_0 l2_1) (L82_2 x_3 x_4 l2_0 l2_1) h = S82_2 call (fun (x_8 : Bool) (l2_0 l2_1 : AV) h => (E82_3 N call) (T82_3 x_8 l2_0 l2_1) (L82_3 x_8 l2_0 l2_1) h) x_3 x_4 l2_0 l2_1 h := by kernel_rfl
theorem Z82_2 (N : Nat) (call : CT) (x_3 : List Nat) (x_4 : Bool) (l2_0 l2_1 : AV) (h : H) : E82_2 N call (T82_2 x_3 x_4 l2_0 l2_1) (L82_2 x_3 x_4 l2_0 l2_1) h = C82_2 N call x_3 x_4 l2_0 l2_1 h := by
  have e3 : (fun (x_8 : Bool) (l2_0 l2_1 : AV) h => (E82_3 N call) (T82_3 x_8 l2_0 l2_1) (L82_3 x_8 l2_0 l2_1) h) = (C82_3 N call) := by
    funext x_8 l2_0 l2_1 h
    exact Z82_3 N call x_8 l2_0 l2_1 h
  have r := R82_2 N call x_3 x_4 l2_0 l2_1 h
  rw [e3] at r
  have z : S82_2 call (C82_3 N call) x_3 x_4 l2_0 l2_1 h = C82_2 N call x_3 x_4 l2_0 l2_1 h := by kernel_rfl
  exact r.trans z
theorem R82_0 (N : Nat) (call : CT) (y0 : AV) (h : H) : body Tryz.prog N call Tryz.f82 A82.an [y0] h = S82_0 call (fun (x_3 : List Nat) (x_4 : Bool) (l2_0 l2_1 : AV) h => (E82_2 N call) (T82_2 x_3 x_4 l2_0 l2_1) (L82_2 x_3 x_4 l2_0 l2_1) h) y0 h := by kernel_rfl
theorem Z82 (N : Nat) (call : CT) (y0 : AV) (h : H) : body Tryz.prog N call Tryz.f82 A82.an [y0] h = S82 N call y0 h := by
  have e2 : (fun (x_3 : List Nat) (x_4 : Bool) (l2_0 l2_1 : AV) h => (E82_2 N call) (T82_2 x_3 x_4 l2_0 l2_1) (L82_2 x_3 x_4 l2_0 l2_1) h) = (C82_2 N call) := by
    funext x_3 x_4 l2_0 l2_1 h
    exact Z82_2 N call x_3 x_4 l2_0 l2_1 h
  have r := R82_0 N call y0 h
  rw [e2] at r
  have z : S82_0 call (C82_2 N call) y0 h = S82 N call y0 h := by kernel_rfl
  exact r.trans z
theorem V82 (N : Nat) (call : CT) (vs : List AV) (h : H) : body Tryz.prog N call Tryz.f82 A82.an vs h = row1 (fun y0 => S82 N call y0 h) vs := wrap1 (by kernel_rfl) (fun y0 => Z82 N call y0 h) vs
/- (*sibyl/macro.expander).call$1 -/
def A83.a0 : Ann := .items [.opL 0, .op 1]
def A83.a1 : Ann := .items [.op 0, .op 1, .op 2, .op 3, .op 4, .op 5]
def A83.a2 : Ann := .leaf
def A83.a3 : Ann := .two A83.a1 A83.a2
def A83.an : Ann := .two A83.a0 A83.a3
def S83_0 (call : CT) (y0 y1 : AV) (h : H) : R :=
  onAgR y0 (fun l9 => row8 (fun x1 x2 x3 x4 x5 x6 x7 x8 => onPtr y1 (fun p10 => onSome p10 (fun b11 o12 => onStr x1 (fun s13 => ldK h b11 (o12 + 1) 1 (one (fun v14 => onStr v14 (fun s15 => some ((.bool (eqS s13 s15)), h)))))))) l9)
def S83 (N : Nat) (call : CT) (y0 y1 : AV) (h : H) : R := S83_0 call y0 y1 h
theorem R83_0 (N : Nat) (call : CT) (y0 y1 : AV) (h : H) : body Tryz.prog N call Tryz.f83 A83.an [y0, y1] h = S83_0 call y0 y1 h := by kernel_rfl
theorem Z83 (N : Nat) (call : CT) (y0 y1 : AV) (h : H) : body Tryz.prog N call Tryz.f83 A83.an [y0, y1] h = S83 N call y0 y1 h := by
  have r := R83_0 N call y0 y1 h
  have z : S83_0 call y0 y1 h = S83 N call y0 y1 h := by kernel_rfl
  exact r.trans z
theorem V83 (N : Nat) (call : CT) (vs : List AV) (h : H) : body Tryz.prog N call Tryz.f83 A83.an vs h = row2 (fun y0 y1 => S83 N call y0 y1 h) vs := wrap2 (by kernel_rfl) (fun y0 y1 => Z83 N call y0 y1 h) vs
/- sibyl/free.Put -/
def A84.a0 : Ann := .items [.opL 0, .opL 1]
def A84.a1 : Ann := .items [.op 0, .op 1, .op 2, .op 3, .op 4, .op 5]
def A84.a2 : Ann := .leaf
def A84.a3 : Ann := .two A84.a1 A84.a2
def A84.an : Ann := .two A84.a0 A84.a3
def S84_0 (call : CT) (y0 y1 y2 : AV) (h : H) : R :=
  onAgR y0 (fun l6 => row5 (fun x1 x2 x3 x4 x5 => onSlice y1 (fun a7 n8 c9 => onSlice y2 (fun a10 n11 c12 => bindR (call 107 [(.agg [(.slice a7 n8 c9), (.slice a10 n11 c12)]), (.agg [x1, x2, x3, x4, x5])] h) (fun v13 h14 => onAgR v13 (fun l20 => row5 (fun x15 x16 x17 x18 x19 => some ((.agg [x15, x16, x17, x18, x19]), h14)) l20))))) l6)
def S84 (N : Nat) (call : CT) (y0 y1 y2 : AV) (h : H) : R := S84_0 call y0 y1 y2 h
theorem R84_0 (N : Nat) (call : CT) (y0 y1 y2 : AV) (h : H) : body Tryz.prog N call Tryz.f84 A84.an [y0, y1, y2] h = S84_0 call y0 y1 y2 h := by kernel_rfl
theorem Z84 (N : Nat) (call : CT) (y0 y1 y2 : AV) (h : H) : body Tryz.prog N call Tryz.f84 A84.an [y0, y1, y2] h = S84 N call y0 y1 y2 h := by
  have r := R84_0 N call y0 y1 y2 h
  have z : S84_0 call y0 y1 y2 h = S84 N call y0 y1 y2 h := by kernel_rfl
  exact r.trans z
theorem V84 (N : Nat) (call : CT) (vs : List AV) (h : H) : body Tryz.prog N call Tryz.f84 A84.an vs h = row3 (fun y0 y1 y2 => S84 N call y0 y1 y2 h) vs := wrap3 (by kernel_rfl) (fun y0 y1 y2 => Z84 N call y0 y1 y2 h) vs
/- sibyl/tree.size -/
def A85.a0 : Ann := .items [.opL 0, .op 1]
def A85.a1 : Ann := .items [.op 0, .op 1]
def A85.a2 : Ann := .items [.op 0]
def A85.a3 : Ann := .leaf
def A85.a4 : Ann := .two A85.a2 A85.a3
def A85.a5 : Ann := .leaf
def A85.a6 : Ann := .two A85.a4 A85.a5
def A85.a7 : Ann := .two A85.a1 A85.a6
def A85.a8 : Ann := .items [.op 0]
def A85.a9 : Ann := .items [.op 0, .op 1, .op 2, .op 3]
def A85.a10 : Ann := .items [.op 0]
def A85.a11 : Ann := .leaf
def A85.a12 : Ann := .leaf
def A85.a13 : Ann := .two A85.a11 A85.a12
def A85.a14 : Ann := .items [.op 0, .op 1, .opL 2, .op 3]
def A85.a15 : Ann := .items [.op 0, .op 1, .op 2]
def A85.a16 : Ann := .leaf
def A85.a17 : Ann := .leaf
def A85.a18 : Ann := .two A85.a16 A85.a17
def A85.a19 : Ann := .two A85.a15 A85.a18
def A85.a20 : Ann := .items [.op 0, .op 1, .op 2, .op 3, .op 4, .op 5, .op 6, .op 7]
def A85.a21 : Ann := .two A85.a19 A85.a20
def A85.a22 : Ann := .two A85.a14 A85.a21
def A85.a23 : Ann := .one A85.a22
def A85.a24 : Ann := .items [.op 0, .op 1]
def A85.a25 : Ann := .two A85.a23 A85.a24
def A85.a26 : Ann := .two A85.a13 A85.a25
def A85.a27 : Ann := .two A85.a10 A85.a26
def A85.a28 : Ann := .meet [1, 5, 11, 12, 13] [] A85.a27
def A85.a29 : Ann := .one A85.a28
def A85.a30 : Ann := .two A85.a9 A85.a29
def A85.a31 : Ann := .items [.op 0, .op 1]
def A85.a32 : Ann := .leaf
def A85.a33 : Ann := .two A85.a31 A85.a32
def A85.a34 : Ann := .two A85.a30 A85.a33
def A85.a35 : Ann := .two A85.a8 A85.a34
def A85.a36 : Ann := .two A85.a7 A85.a35
def A85.an : Ann := .two A85.a0 A85.a36
def F85_1 (N : Nat) (call : CT) (self : K3) : K3 :=
  (codeK Tryz.prog N call (c1 (c1 (c2 (c1 (c2 (c2 (c2 (bodyOf Tryz.f85)))))))) A85.a27 (fun T L h => self (keepT [1, 5, 11, 12, 13] T) (keepL [] L) h) (fun i T L h => match Nat.beq i 0 with | true => (codeK Tryz.prog N call (c2 (c2 (c2 (c2 (bodyOf Tryz.f85))))) A85.a33 (resK Tryz.prog Tryz.f85.results.toList) (fun _ _ _ _ => none) (resK Tryz.prog Tryz.f85.results.toList)) T L h | false => (fun _ _ _ _ => none) i T L h) (resK Tryz.prog Tryz.f85.results.toList))
def E85_1 (N : Nat) (call : CT) : K3 := iter (F85_1 N call) N
def S85_1 (call : CT) (k1 : Int → Int → OA → Nat → Option Nat → Int → Int → H → R) (x_1 x_5 : Int) (a_11 : OA) (n_11 : Nat) (c_11 : Option Nat) (x_12 x_13 : Int) (h : H) : R :=
  ifB (ltI x_13 x_12) (idxAddr 5 a_11 n_11 x_13 (fun b1 o2 => ldK h b1 o2 5 (fun l3 => row5 (fun x4 x5 x6 x7 x8 => ifB (leI x_1 x_5) (some ((.int .i64 x_5), h)) (bindR (call 85 [(.agg [x4, x5, x6, x7, x8]), (.int .i64 (wrapF .i64 (Int.sub x_1 x_5)))] h) (fun v9 h10 => onInt .i64 v9 (fun i11 => k1 x_1 (wrapF .i64 (Int.add x_5 i11)) a_11 n_11 c_11 x_12 (wrapF .i64 (Int.add x_13 (Int.ofNat 1))) h10)))) l3))) (some ((.int .i64 x_5), h))
def S85_0 (call : CT) (k1 : Int → Int → OA → Nat → Option Nat → Int → Int → H → R) (y0 y1 : AV) (h : H) : R :=
  onAgR y0 (fun l6 => row5 (fun x1 x2 x3 x4 x5 => onInt .i64 y1 (fun i7 => ifB (leI i7 (Int.ofNat 0)) (some ((.int .i64 (Int.ofNat 0)), h)) (onSlice x5 (fun a8 n9 c10 => k1 i7 (Int.ofNat 1) a8 n9 c10 (Int.ofNat n9) (Int.ofNat 0) h)))) l6)
def B85_1 (N : Nat) (call : CT) (ih : Int → Int → OA → Nat → Option Nat → Int → Int → H → R) : Int → Int → OA → Nat → Option Nat → Int → Int → H → R := S85_1 call ih
def I85_1 (N : Nat) (call : CT) (n : Nat) : Int → Int → OA → Nat → Option Nat → Int → Int → H → R := Nat.rec (motive := fun _ => Int → Int → OA → Nat → Option Nat → Int → Int → H → R) (fun _ _ _ _ _ _ _ _ => none) (fun _ ih => B85_1 N call ih) n
def C85_1 (N : Nat) (call : CT) : Int → Int → OA → Nat → Option Nat → Int → Int → H → R := I85_1 N call N
def S85 (N : Nat) (call : CT) (y0 y1 : AV) (h : H) : R := S85_0 call (C85_1 N call) y0 y1 h
def T85_1 (x_1 x_5 : Int) (a_11 : OA) (n_11 : Nat) (c_11 : Option Nat) (x_12 x_13 : Int) : LF := [none, (some (.v (.int .i64 x_1))), oo, oo, oo, (some (.v (.int .i64 x_5))), oo, oo, oo, oo, oo, (some (.v (.slice a_11 n_11 c_11))), (some (.v (.int .i64 x_12))), (some (.v (.int .i64 x_13))), oo, oo, oo, oo, oo, oo, oo, oo, oo, oo, oo, oo, oo, oo, oo]
def L85_1 (x_1 x_5 : Int) (a_11 : OA) (n_11 : Nat) (c_11 : Option Nat) (x_12 x_13 : Int) : LL := [oo, oo, oo, oo, oo, oo, oo, oo, oo, oo, oo, oo, oo, oo, oo, oo, oo, oo, oo, oo, oo, oo, oo, oo, oo, oo, oo, oo, oo]
theorem R85_1 (N : Nat) (call : CT) (self : K3) (x_1 x_5 : Int) (a_11 : OA) (n_11 : Nat) (c_11 : Option Nat) (x_12 x_13 : Int) (h : H) : F85_1 N call self (T85_1 x_1 x_5 a_11 n_11 c_11 x_12 x_13) (L85_1 x_1 x_5 a_11 n_11 c_11 x_12 x_13) h = S85_1 call (fun (x_1 x_5 : Int) (a_11 : OA) (n_11 : Nat) (c_11 : Option Nat) (x_12 x_13 : Int) h => self (T85_1 x_1 x_5 a_11 n_11 c_11 x_12 x_13) (L85_1 x_1 x_5 a_11 n_11 c_11 x_12 x_13) h) x_1 x_5 a_11 n_11 c_11 x_12 x_13 h := by kernel_rfl
theorem Q85_1 (N : Nat) (call : CT) (n : Nat) : ∀ (x_1 x_5 : Int) (a_11 : OA) (n_11 : Nat) (c_11 : Option Nat) (x_12 x_13 : Int) (h : H), (iter (F85_1 N call) n) (T85_1 x_1 x_5 a_11 n_11 c_11 x_12 x_13) (L85_1 x_1 x_5 a_11 n_11 c_11 x_12 x_13) h = I85_1 N call n x_1 x_5 a_11 n_11 c_11 x_12 x_13 h := by
  induction n with
  | zero => intros; exact (iter_zero _ _ _ _).trans (by kernel_rfl)
  | succ n ih =>
    intro x_1 x_5 a_11 n_11 c_11 x_12 x_13 h
    have e0 : (fun (x_1 x_5 : Int) (a_11 : OA) (n_11 : Nat) (c_11 : Option Nat) (x_12 x_13 : Int) h => (iter (F85_1 N call) n) (T85_1 x_1 x_5 a_11 n_11 c_11 x_12 x_13) (L85_1 x_1 x_5 a_11 n_11 c_11 x_12 x_13) h) = (I85_1 N call n) := by funext x_1 x_5 a_11 n_11 c_11 x_12 x_13 h; exact ih x_1 x_5 a_11 n_11 c_11 x_12 x_13 h
    have r := R85_1 N call (iter (F85_1 N call) n) x_1 x_5 a_11 n_11 c_11 x_12 x_13 h
    rw [e0] at r
    have g := iter_succ (F85_1 N call) n (T85_1 x_1 x_5 a_11 n_11 c_11 x_12 x_13) (L85_1 x_1 x_5 a_11 n_11 c_11 x_12 x_13) h
    have z : S85_1 call (I85_1 N call n) x_1 x_5 a_11 n_11 c_11 x_12 x_13 h = I85_1 N call (n + 1) x_1 x_5 a_11 n_11 c_11 x_12 x_13 h := by kernel_rfl
    exact g.trans (r.trans z)
theorem Z85_1 (N : Nat) (call : CT) (x_1 x_5 : Int) (a_11 : OA) (n_11 : Nat) (c_11 : Option Nat) (x_12 x_13 : Int) (h : H) : (E85_1 N call) (T85_1 x_1 x_5 a_11 n_11 c_11 x_12 x_13) (L85_1 x_1 x_5 a_11 n_11 c_11 x_12 x_13) h = C85_1 N call x_1 x_5 a_11 n_11 c_11 x_12 x_13 h := by
  have g : (E85_1 N call) (T85_1 x_1 x_5 a_11 n_11 c_11 x_12 x_13) (L85_1 x_1 x_5 a_11 n_11 c_11 x_12 x_13) h = iter (F85_1 N call) N (T85_1 x_1 x_5 a_11 n_11 c_11 x_12 x_13) (L85_1 x_1 x_5 a_11 n_11 c_11 x_12 x_13) h := by kernel_rfl
  have z : I85_1 N call N x_1 x_5 a_11 n_11 c_11 x_12 x_13 h = C85_1 N call x_1 x_5 a_11 n_11 c_11 x_12 x_13 h := by kernel_rfl
  exact g.trans ((Q85_1 N call N x_1 x_5 a_11 n_11 c_11 x_12 x_13 h).trans z)
theorem R85_0 (N : Nat) (call : CT) (y0 y1 : AV) (h : H) : body Tryz.prog N call Tryz.f85 A85.an [y0, y1] h = S85_0 call (fun (x_1 x_5 : Int) (a_11 : OA) (n_11 : Nat) (c_11 : Option Nat) (x_12 x_13 : Int) h => (E85_1 N call) (T85_1 x_1 x_5 a_11 n_11 c_11 x_12 x_13) (L85_1 x_1 x_5 a_11 n_11 c_11 x_12 x_13) h) y0 y1 h := by kernel_rfl
theorem Z85 (N : Nat) (call : CT) (y0 y1 : AV) (h : H) : body Tryz.prog N call Tryz.f85 A85.an [y0, y1] h = S85 N call y0 y1 h := by
  have e1 : (fun (x_1 x_5 : Int) (a_11 : OA) (n_11 : Nat) (c_11 : Option Nat) (x_12 x_13 : Int) h => (E85_1 N call) (T85_1 x_1 x_5 a_11 n_11 c_11 x_12 x_13) (L85_1 x_1 x_5 a_11 n_11 c_11 x_12 x_13) h) = (C85_1 N call) := by
    funext x_1 x_5 a_11 n_11 c_11 x_12 x_13 h
    exact Z85_1 N call x_1 x_5 a_11 n_11 c_11 x_12 x_13 h
  have r := R85_0 N call y0 y1 h
  rw [e1] at r
  have z : S85_0 call (C85_1 N call) y0 y1 h = S85 N call y0 y1 h := by kernel_rfl
  exact r.trans z
theorem V85 (N : Nat) (call : CT) (vs : List AV) (h : H) : body Tryz.prog N call Tryz.f85 A85.an vs h = row2 (fun y0 y1 => S85 N call y0 y1 h) vs := wrap2 (by kernel_rfl) (fun y0 y1 => Z85 N call y0 y1 h) vs
/- unicode/utf8.DecodeRuneInString -/
def A86.a0 : Ann := .items [.op 0, .op 1]
def A86.a1 : Ann := .items [.op 0, .op 1, .op 2, .split 6, .op 3, .op 4, .op 5, .op 6]
def A86.a2 : Ann := .items [.op 0, .op 1, .op 2, .op 3, .op 4]
def A86.a3 : Ann := .leaf
def A86.a4 : Ann := .two A86.a2 A86.a3
def A86.a5 : Ann := .items [.op 0, .op 1, .op 2, .op 3, .op 4, .op 5, .op 6]
def A86.a6 : Ann := .two A86.a4 A86.a5
def A86.a7 : Ann := .join [0, 10] [] A86.a1 A86.a6
def A86.a8 : Ann := .leaf
def A86.a9 : Ann := .two A86.a7 A86.a8
def A86.an : Ann := .two A86.a0 A86.a9
def E86_1 (N : Nat) (call : CT) : K3 :=
  (codeK Tryz.prog N call (c2 (c1 (c2 (bodyOf Tryz.f86)))) A86.a6 (codeK Tryz.prog N call (c2 (c2 (bodyOf Tryz.f86))) A86.a8 (resK Tryz.prog Tryz.f86.results.toList) (fun _ _ _ _ => none) (resK Tryz.prog Tryz.f86.results.toList)) (fun _ _ _ _ => none) (resK Tryz.prog Tryz.f86.results.toList))
def S86_1 (call : CT) (x_0 : List Nat) (x_10 : Bool) (h : H) : R :=
  ifB x_10 (idxS x_0 (Int.ofNat 0) (fun b1 => some (.tuple [(.int .i32 (wrapF .i32 (Int.ofNat b1))), (.int .i64 (Int.ofNat 1))], h))) (bindR (call 108 [(.str x_0)] h) (fun v2 h3 => onTuple v2 0 (fun v4 => onInt .i32 v4 (fun i5 => onTuple v2 1 (fun v6 => onInt .i64 v6 (fun i7 => some (.tuple [(.int .i32 i5), (.int .i64 i7)], h3)))))))
def S86_0 (call : CT) (k1 : List Nat → Bool → H → R) (y0 : AV) (h : H) : R :=
  onStr y0 (fun s1 => ifB (!(eqS s1 [])) (idxS s1 (Int.ofNat 0) (fun b2 => k1 s1 (ltI (Int.ofNat b2) (Int.ofNat 128)) h)) (k1 s1 false h))
def C86_1 (N : Nat) (call : CT) : List Nat → Bool → H → R := S86_1 call
def S86 (N : Nat) (call : CT) (y0 : AV) (h : H) : R := S86_0 call (C86_1 N call) y0 h
def T86_1 (x_0 : List Nat) (x_10 : Bool) : LF := [(some (.v (.str x_0))), oo, oo, oo, oo, oo, oo, oo, oo, oo, (some (.v (.bool x_10))), oo, oo, oo, oo, oo, oo, oo, oo]
def L86_1 (x_0 : List Nat) (x_10 : Bool) : LL := [oo, oo, oo, oo, oo, oo, oo, oo, oo, oo, oo, oo, oo, oo, oo, oo, oo, oo, oo]
theorem R86_1 (N : Nat) (call : CT) (x_0 : List Nat) (x_10 : Bool) (h : H) : E86_1 N call (T86_1 x_0 x_10) (L86_1 x_0 x_10) h = S86_1 call x_0 x_10 h := by kernel_rfl
theorem Z86_1 (N : Nat) (call : CT) (x_0 : List Nat) (x_10 : Bool) (h : H) : E86_1 N call (T86_1 x_0 x_10) (L86_1 x_0 x_10) h = C86_1 N call x_0 x_10 h := by
  have r := R86_1 N call x_0 x_10 h
  have z : S86_1 call x_0 x_10 h = C86_1 N call x_0 x_10 h := by kernel_rfl
  exact r.trans z
theorem R86_0 (N : Nat) (call : CT) (y0 : AV) (h : H) : body Tryz.prog N call Tryz.f86 A86.an [y0] h = S86_0 call (fun (x_0 : List Nat) (x_10 : Bool) h => (E86_1 N call) (T86_1 x_0 x_10) (L86_1 x_0 x_10) h) y0 h := by kernel_rfl
theorem Z86 (N : Nat) (call : CT) (y0 : AV) (h : H) : body Tryz.prog N call Tryz.f86 A86.an [y0] h = S86 N call y0 h := by
  have e1 : (fun (x_0 : List Nat) (x_10 : Bool) h => (E86_1 N call) (T86_1 x_0 x_10) (L86_1 x_0 x_10) h) = (C86_1 N call) := by
    funext x_0 x_10 h
    exact Z86_1 N call x_0 x_10 h
  have r := R86_0 N call y0 h
  rw [e1] at r
  have z : S86_0 call (C86_1 N call) y0 h = S86 N call y0 h := by kernel_rfl
  exact r.trans z
theorem V86 (N : Nat) (call : CT) (vs : List AV) (h : H) : body Tryz.prog N call Tryz.f86 A86.an vs h = row1 (fun y0 => S86 N call y0 h) vs := wrap1 (by kernel_rfl) (fun y0 => Z86 N call y0 h) vs
/- (*sibyl/sibylref2.reader).class -/
def A87.a0 : Ann := .items [.op 0]
def A87.a1 : Ann := .drawn [.op 0, .op 1, .op 2, .op 3, .op 4, .op 5, .op 6, .op 7, .op 8, .op 9, .op 10, .op 11]
def A87.a2 : Ann := .items [.op 0]
def A87.a3 : Ann := .leaf
def A87.a4 : Ann := .two A87.a2 A87.a3
def A87.a5 : Ann := .leaf
def A87.a6 : Ann := .two A87.a4 A87.a5
def A87.a7 : Ann := .two A87.a1 A87.a6
def A87.a8 : Ann := .drawn [.op 0, .op 1, .op 2, .op 3, .op 4, .op 5, .op 6, .op 7, .op 8, .op 9, .op 10, .op 11, .op 12, .op 13, .op 14]
def A87.a9 : Ann := .leaf
def A87.a10 : Ann := .two A87.a8 A87.a9
def A87.a11 : Ann := .two A87.a7 A87.a10
def A87.an : Ann := .two A87.a0 A87.a11
def S87_0 (call : CT) (y0 y1 : AV) (h : H) : R :=
  onPtr y0 (fun p1 => onInt .i64 y1 (fun i2 => onSome p1 (fun b3 o4 => ldK h b3 (o4 + 3) 1 (one (fun v5 => onInt .i64 v5 (fun i6 => onSome p1 (fun b7 o8 => ldK h b7 (o8 + 1) 1 (one (fun v9 => onSlice v9 (fun a10 n11 c12 => ifB (leI (Int.ofNat n11) (wrapF .i64 (Int.add i6 i2))) (some ((.int .i64 (Int.negSucc 0)), h)) (onSome p1 (fun b13 o14 => ldK h b13 (o14 + 1) 1 (one (fun v15 => onSlice v15 (fun a16 n17 c18 => onSome p1 (fun b19 o20 => ldK h b19 (o20 + 3) 1 (one (fun v21 => onInt .i64 v21 (fun i22 => idxAddr 2 a16 n17 (wrapF .i64 (Int.add i22 i2)) (fun b23 o24 => ldK h b23 (o24 + 0) 1 (one (fun v25 => onInt .i32 v25 (fun i26 => bindR (call 109 [(.int .i32 i26)] h) (fun v27 h28 => onInt .i64 v27 (fun i29 => some ((.int .i64 i29), h28))))))))))))))))))))))))))
def S87 (N : Nat) (call : CT) (y0 y1 : AV) (h : H) : R := S87_0 call y0 y1 h
theorem R87_0 (N : Nat) (call : CT) (y0 y1 : AV) (h : H) : body Tryz.prog N call Tryz.f87 A87.an [y0, y1] h = S87_0 call y0 y1 h := by kernel_rfl
theorem Z87 (N : Nat) (call : CT) (y0 y1 : AV) (h : H) : body Tryz.prog N call Tryz.f87 A87.an [y0, y1] h = S87 N call y0 y1 h := by
  have r := R87_0 N call y0 y1 h
  have z : S87_0 call y0 y1 h = S87 N call y0 y1 h := by kernel_rfl
  exact r.trans z
theorem V87 (N : Nat) (call : CT) (vs : List AV) (h : H) : body Tryz.prog N call Tryz.f87 A87.an vs h = row2 (fun y0 y1 => S87 N call y0 y1 h) vs := wrap2 (by kernel_rfl) (fun y0 y1 => Z87 N call y0 y1 h) vs
/- (*sibyl/sibylref2.reader).is -/
def A88.a0 : Ann := .items [.op 0]
def A88.a1 : Ann := .drawn [.op 0, .op 1, .op 2, .op 3, .op 4, .op 5, .op 6, .op 7, .op 8, .op 9, .op 10, .op 11, .op 12, .split 19, .op 13, .op 14, .op 15, .op 16, .op 17, .op 18, .op 19, .op 20, .op 21, .op 22, .op 23, .op 24, .op 25, .op 26, .op 27, .op 28, .op 29]
def A88.a2 : Ann := .leaf
def A88.a3 : Ann := .two A88.a1 A88.a2
def A88.an : Ann := .two A88.a0 A88.a3
def S88_0 (call : CT) (y0 y1 y2 : AV) (h : H) : R :=
  onPtr y0 (fun p1 => onInt .i64 y1 (fun i2 => onInt .i32 y2 (fun i3 => onSome p1 (fun b4 o5 => ldK h b4 (o5 + 3) 1 (one (fun v6 => onInt .i64 v6 (fun i7 => onSome p1 (fun b8 o9 => ldK h b8 (o9 + 1) 1 (one (fun v10 => onSlice v10 (fun a11 n12 c13 => ifB (ltI (wrapF .i64 (Int.add i7 i2)) (Int.ofNat n12)) (onSome p1 (fun b14 o15 => ldK h b14 (o15 + 1) 1 (one (fun v16 => onSlice v16 (fun a17 n18 c19 => onSome p1 (fun b20 o21 => ldK h b20 (o21 + 3) 1 (one (fun v22 => onInt .i64 v22 (fun i23 => idxAddr 2 a17 n18 (wrapF .i64 (Int.add i23 i2)) (fun b24 o25 => ldK h b24 (o25 + 0) 1 (one (fun v26 => onInt .i32 v26 (fun i27 => some ((.bool (eqI i27 i3)), h)))))))))))))) (some ((.bool false), h)))))))))))))
def S88 (N : Nat) (call : CT) (y0 y1 y2 : AV) (h : H) : R := S88_0 call y0 y1 y2 h
theorem R88_0 (N : Nat) (call : CT) (y0 y1 y2 : AV) (h : H) : body Tryz.prog N call Tryz.f88 A88.an [y0, y1, y2] h = S88_0 call y0 y1 y2 h := by kernel_rfl
theorem Z88 (N : Nat) (call : CT) (y0 y1 y2 : AV) (h : H) : body Tryz.prog N call Tryz.f88 A88.an [y0, y1, y2] h = S88 N call y0 y1 y2 h := by
  have r := R88_0 N call y0 y1 y2 h
  have z : S88_0 call y0 y1 y2 h = S88 N call y0 y1 y2 h := by kernel_rfl
  exact r.trans z
theorem V88 (N : Nat) (call : CT) (vs : List AV) (h : H) : body Tryz.prog N call Tryz.f88 A88.an vs h = row3 (fun y0 y1 y2 => S88 N call y0 y1 y2 h) vs := wrap3 (by kernel_rfl) (fun y0 y1 y2 => Z88 N call y0 y1 y2 h) vs
/- (*sibyl/sibylref2.reader).name -/
def A89.a0 : Ann := .items [.opL 0, .op 1]
def A89.a1 : Ann := .items [.op 0]
def A89.a2 : Ann := .items [.op 0, .op 1, .op 2, .op 3, .op 4, .split 11, .op 5, .op 6, .op 7, .split 14, .op 8, .op 9, .op 10, .op 11, .op 12, .split 19, .op 13, .op 14, .op 15, .op 16, .op 17, .op 18]
def A89.a3 : Ann := .leaf
def A89.a4 : Ann := .leaf
def A89.a5 : Ann := .two A89.a3 A89.a4
def A89.a6 : Ann := .join [0, 2, 4, 25] [2] A89.a2 A89.a5
def A89.a7 : Ann := .items [.op 0, .op 1, .op 2]
def A89.a8 : Ann := .one A89.a7
def A89.a9 : Ann := .join [0, 2, 4] [2] A89.a6 A89.a8
def A89.a10 : Ann := .meet [0, 2, 4] [2] A89.a9
def A89.a11 : Ann := .one A89.a10
def A89.a12 : Ann := .items [.op 0, .op 1, .op 2, .opL 3, .op 4]
def A89.a13 : Ann := .items [.op 0, .op 1, .op 2, .op 3]
def A89.a14 : Ann := .drawn [.op 0, .op 1, .op 2, .op 3, .op 4, .op 5, .op 6, .op 7, .op 8, .op 9, .op 10, .op 11, .op 12, .split 46, .op 13, .op 14, .op 15, .op 16, .op 17, .op 18]
def A89.a15 : Ann := .items [.op 0, .op 1, .op 2, .op 3, .op 4]
def A89.a16 : Ann := .leaf
def A89.a17 : Ann := .two A89.a15 A89.a16
def A89.a18 : Ann := .join [0, 2, 4, 5, 6, 52] [2, 5] A89.a14 A89.a17
def A89.a19 : Ann := .drawn [.op 0, .op 1, .op 2, .op 3, .op 4, .op 5, .op 6, .op 7, .op 8, .op 9]
def A89.a20 : Ann := .items [.op 0, .op 1, .op 2, .op 3, .op 4, .op 5, .op 6, .op 7, .op 8, .op 9]
def A89.a21 : Ann := .items [.op 0, .op 1, .op 2]
def A89.a22 : Ann := .items [.op 0, .op 1]
def A89.a23 : Ann := .leaf
def A89.a24 : Ann := .two A89.a22 A89.a23
def A89.a25 : Ann := .two A89.a21 A89.a24
def A89.a26 : Ann := .items [.op 0, .op 1, .op 2, .op 3, .op 4]
def A89.a27 : Ann := .leaf
def A89.a28 : Ann := .two A89.a26 A89.a27
def A89.a29 : Ann := .join [2, 4, 5] [2, 5] A89.a25 A89.a28
def A89.a30 : Ann := .two A89.a20 A89.a29
def A89.a31 : Ann := .two A89.a19 A89.a30
def A89.a32 : Ann := .join [0, 2, 4, 5, 6] [2, 5] A89.a18 A89.a31
def A89.a33 : Ann := .two A89.a13 A89.a32
def A89.a34 : Ann := .two A89.a12 A89.a33
def A89.a35 : Ann := .two A89.a11 A89.a34
def A89.a36 : Ann := .two A89.a1 A89.a35
def A89.an : Ann := .two A89.a0 A89.a36
def F89_1 (N : Nat) (call : CT) (self : K3) : K3 :=
  (codeK Tryz.prog N call (c1 (c1 (c1 (c2 (c2 (bodyOf Tryz.f89)))))) A89.a9 (fun T L h => self (keepT [0, 2, 4] T) (keepL [2] L) h) (fun i T L h => match Nat.beq i 0 with | true => (codeK Tryz.prog N call (c2 (c2 (c2 (bodyOf Tryz.f89)))) A89.a34 (resK Tryz.prog Tryz.f89.results.toList) (fun _ _ _ _ => none) (resK Tryz.prog Tryz.f89.results.toList)) T L h | false => (fun _ _ _ _ => none) i T L h) (resK Tryz.prog Tryz.f89.results.toList))
def E89_1 (N : Nat) (call : CT) : K3 := iter (F89_1 N call) N
def E89_2 (N : Nat) (call : CT) (D1 : K3) : K3 :=
  (codeK Tryz.prog N call (c2 (c1 (c1 (c1 (c2 (c2 (bodyOf Tryz.f89))))))) A89.a8 (fun T L h => D1 (keepT [0, 2, 4] T) (keepL [2] L) h) (fun i T L h => match Nat.beq i 0 with | true => (codeK Tryz.prog N call (c2 (c2 (c2 (bodyOf Tryz.f89)))) A89.a34 (resK Tryz.prog Tryz.f89.results.toList) (fun _ _ _ _ => none) (resK Tryz.prog Tryz.f89.results.toList)) T L h | false => (fun _ _ _ _ => none) i T L h) (resK Tryz.prog Tryz.f89.results.toList))
def E89_3 (N : Nat) (call : CT) (D1 : K3) : K3 :=
  (codeK Tryz.prog N call (c2 (c1 (c1 (c1 (c1 (c2 (c2 (bodyOf Tryz.f89)))))))) A89.a5 (fun T L h => (E89_2 N call D1) (keepT [0, 2, 4] T) (keepL [2] L) h) (fun i T L h => match Nat.beq i 0 with | true => (codeK Tryz.prog N call (c2 (c2 (c2 (bodyOf Tryz.f89)))) A89.a34 (resK Tryz.prog Tryz.f89.results.toList) (fun _ _ _ _ => none) (resK Tryz.prog Tryz.f89.results.toList)) T L h | false => (fun _ _ _ _ => none) i T L h) (resK Tryz.prog Tryz.f89.results.toList))
def E89_4 (N : Nat) (call : CT) : K3 :=
  (codeK Tryz.prog N call (c2 (c2 (c2 (c2 (c2 (c2 (bodyOf Tryz.f89))))))) A89.a31 (resK Tryz.prog Tryz.f89.results.toList) (fun _ _ _ _ => none) (resK Tryz.prog Tryz.f89.results.toList))
def E89_5 (N : Nat) (call : CT) : K3 :=
  (codeK Tryz.prog N call (c2 (c1 (c2 (c2 (c2 (c2 (c2 (bodyOf Tryz.f89)))))))) A89.a17 (fun T L h => (E89_4 N call) (keepT [0, 2, 4, 5, 6] T) (keepL [2, 5] L) h) (fun _ _ _ _ => none) (resK Tryz.prog Tryz.f89.results.toList))
def E89_6 (N : Nat) (call : CT) : K3 :=
  (codeK Tryz.prog N call (c2 (c2 (c2 (c2 (c2 (c2 (c2 (c2 (c2 (bodyOf Tryz.f89)))))))))) A89.a28 (resK Tryz.prog Tryz.f89.results.toList) (fun _ _ _ _ => none) (resK Tryz.prog Tryz.f89.results.toList))
def S89_1 (call : CT) (k3 : OA → Int → Bool → AV → AV → AV → AV → H → R) (x_0 : OA) (x_4 : Int) (l2_0 l2_1 : AV) (l2_2 l2_3 : AV) (h : H) : R :=
  bindR (call 87 [(.ptr x_0), (.int .i64 x_4)] h) (fun v1 h2 => onInt .i64 v1 (fun i3 => ifB (eqI i3 (Int.ofNat 1)) (k3 x_0 x_4 true l2_0 l2_1 l2_2 l2_3 h2) (ifB (ltI (Int.ofNat 0) x_4) (bindR (call 87 [(.ptr x_0), (.int .i64 x_4)] h2) (fun v4 h5 => onInt .i64 v4 (fun i6 => ifB (eqI i6 (Int.ofNat 2)) (k3 x_0 x_4 true l2_0 l2_1 l2_2 l2_3 h5) (bindR (call 88 [(.ptr x_0), (.int .i64 x_4), (.int .i32 (Int.ofNat 39))] h5) (fun v7 h8 => onBool v7 (fun e9 => k3 x_0 x_4 e9 l2_0 l2_1 l2_2 l2_3 h8)))))) (k3 x_0 x_4 false l2_0 l2_1 l2_2 l2_3 h2))))
def S89_2 (call : CT) (k1 : OA → Int → AV → AV → AV → AV → H → R) (x_0 : OA) (x_4 : Int) (l2_0 l2_1 : AV) (l2_2 l2_3 : AV) (h : H) : R :=
  k1 x_0 (wrapF .i64 (Int.add x_4 (Int.ofNat 1))) l2_0 l2_1 l2_2 l2_3 h
def S89_3 (call : CT) (k2 : OA → Int → AV → AV → AV → AV → H → R) (k5 : OA → Int → Int → Bool → AV → AV → AV → AV → AV → AV → AV → AV → H → R) (x_0 : OA) (x_4 : Int) (x_25 : Bool) (l2_0 l2_1 : AV) (l2_2 l2_3 : AV) (h : H) : R :=
  ifB x_25 (k2 x_0 x_4 l2_0 l2_1 l2_2 l2_3 h) (bindR (call 53 [(.ptr x_0), (.int .i64 (Int.ofNat 0))] h) (fun v1 h2 => onInt .i64 v1 (fun i3 => bindR (call 53 [(.ptr x_0), (.int .i64 x_4)] h2) (fun v4 h5 => onInt .i64 v4 (fun i6 => onSome x_0 (fun b7 o8 => ldK h5 b7 (o8 + 3) 1 (one (fun v9 => onInt .i64 v9 (fun i10 => onSome x_0 (fun b11 o12 => ldK h5 b11 (o12 + 1) 1 (one (fun v13 => onSlice v13 (fun a14 n15 c16 => ifB (leI (Int.ofNat n15) (wrapF .i64 (Int.add i10 x_4))) (onSome x_0 (fun b17 o18 => ldK h5 b17 (o18 + 2) 1 (one (fun v19 => onInt .i64 v19 (fun i20 => k5 x_0 x_4 i6 (leI (Int.ofNat 0) i20) l2_0 l2_1 l2_2 l2_3 (.int .i64 (Int.ofNat 1)) (.str []) (.int .i64 (Int.ofNat 0)) (.int .i64 i3) h5))))) (k5 x_0 x_4 i6 false l2_0 l2_1 l2_2 l2_3 (.int .i64 (Int.ofNat 1)) (.str []) (.int .i64 (Int.ofNat 0)) (.int .i64 i3) h5))))))))))))))
def S89_4 (call : CT) (k6 : Int → AV → AV → AV → AV → AV → AV → AV → AV → H → R) (x_0 : OA) (x_4 x_6 : Int) (l2_0 l2_1 : AV) (l2_2 l2_3 : AV) (l5_0 l5_1 : AV) (l5_2 l5_3 : AV) (h : H) : R :=
  onSome x_0 (fun b1 o2 => ldK h b1 (o2 + 0) 1 (one (fun v3 => onStr v3 (fun s4 => onInt .i64 l5_3 (fun i5 => slcS s4 (some i5) (some x_6) (fun s6 => onSome x_0 (fun b7 o8 => ldK h b7 (o8 + 3) 1 (one (fun v9 => onInt .i64 v9 (fun i10 => onSome x_0 (fun b11 o12 => stK h b11 (o12 + 3) [(.int .i64 (wrapF .i64 (Int.add i10 x_4)))] (fun h13 => bindR (call 110 [(.str s6)] h13) (fun v14 h15 => onBool v14 (fun e16 => ifB e16 (k6 x_4 l2_0 l2_1 l2_2 l2_3 (.int .i64 (Int.ofNat 3)) (.str s6) l5_2 l5_3 h15) (k6 x_4 l2_0 l2_1 l2_2 l2_3 l5_0 (.str s6) l5_2 l5_3 h15)))))))))))))))
def S89_5 (call : CT) (k4 : OA → Int → Int → AV → AV → AV → AV → AV → AV → AV → AV → H → R) (x_0 : OA) (x_4 x_6 : Int) (x_52 : Bool) (l2_0 l2_1 : AV) (l2_2 l2_3 : AV) (l5_0 l5_1 : AV) (l5_2 l5_3 : AV) (h : H) : R :=
  ifB x_52 (onSome x_0 (fun b1 o2 => ldK h b1 (o2 + 2) 1 (one (fun v3 => onInt .i64 v3 (fun i4 => k4 x_0 x_4 i4 l2_0 l2_1 l2_2 l2_3 l5_0 l5_1 l5_2 l5_3 h))))) (k4 x_0 x_4 x_6 l2_0 l2_1 l2_2 l2_3 l5_0 l5_1 l5_2 l5_3 h)
def S89_6 (call : CT) (x_4 : Int) (l2_0 l2_1 : AV) (l2_2 l2_3 : AV) (l5_0 l5_1 : AV) (l5_2 l5_3 : AV) (h : H) : R :=
  some (.tuple [(.agg [l5_0, l5_1, l5_2, l5_3]), (.bool (leI x_4 (Int.ofNat 12)))], h)
def S89_0 (call : CT) (k1 : OA → Int → AV → AV → AV → AV → H → R) (y0 : AV) (h : H) : R :=
  onPtr y0 (fun p1 => k1 p1 (Int.ofNat 0) (.int .i64 (Int.ofNat 0)) (.str []) (.int .i64 (Int.ofNat 0)) (.int .i64 (Int.ofNat 0)) h)
def C89_2 (N : Nat) (call : CT) (k1 : OA → Int → AV → AV → AV → AV → H → R) : OA → Int → AV → AV → AV → AV → H → R := S89_2 call k1
def C89_6 (N : Nat) (call : CT) : Int → AV → AV → AV → AV → AV → AV → AV → AV → H → R := S89_6 call
def C89_4 (N : Nat) (call : CT) : OA → Int → Int → AV → AV → AV → AV → AV → AV → AV → AV → H → R := S89_4 call (C89_6 N call)
def C89_5 (N : Nat) (call : CT) : OA → Int → Int → Bool → AV → AV → AV → AV → AV → AV → AV → AV → H → R := S89_5 call (C89_4 N call)
def C89_3 (N : Nat) (call : CT) (k1 : OA → Int → AV → AV → AV → AV → H → R) : OA → Int → Bool → AV → AV → AV → AV → H → R := S89_3 call (C89_2 N call k1) (C89_5 N call)
def B89_1 (N : Nat) (call : CT) (ih : OA → Int → AV → AV → AV → AV → H → R) : OA → Int → AV → AV → AV → AV → H → R := S89_1 call (C89_3 N call ih)
def I89_1 (N : Nat) (call : CT) (n : Nat) : OA → Int → AV → AV → AV → AV → H → R := Nat.rec (motive := fun _ => OA → Int → AV → AV → AV → AV → H → R) (fun _ _ _ _ _ _ _ => none) (fun _ ih => B89_1 N call ih) n
def C89_1 (N : Nat) (call : CT) : OA → Int → AV → AV → AV → AV → H → R := I89_1 N call N
def S89 (N : Nat) (call : CT) (y0 : AV) (h : H) : R := S89_0 call (C89_1 N call) y0 h
def T89_1 (x_0 : OA) (x_4 : Int) (l2_0 l2_1 : AV) (l2_2 l2_3 : AV) : LF := [(some (.v (.ptr x_0))), none, (some (.lptr 2 0)), none, (some (.v (.int .i64 x_4))), oo, oo, oo, oo, oo, oo, oo, oo, oo, oo, oo, oo, oo, oo, oo, oo, oo, oo, oo, oo, oo, oo, oo, oo, oo, oo, oo, oo, oo, oo, oo, oo, oo, oo, oo, oo, oo, oo, oo, oo, oo, oo, oo, oo, oo, oo, oo, oo, oo, oo, oo, oo, oo, oo, oo, oo, oo, oo, oo, oo, oo, oo, oo, oo, oo, oo, oo, oo, oo, oo, oo, oo, oo, oo, oo, oo, oo]
def L89_1 (x_0 : OA) (x_4 : Int) (l2_0 l2_1 : AV) (l2_2 l2_3 : AV) : LL := [none, none, (some (.cells [l2_0, l2_1, l2_2, l2_3])), oo, oo, oo, oo, oo, oo, oo, oo, oo, oo, oo, oo, oo, oo, oo, oo, oo, oo, oo, oo, oo, oo, oo, oo, oo, oo, oo, oo, oo, oo, oo, oo, oo, oo, oo, oo, oo, oo, oo, oo, oo, oo, oo, oo, oo, oo, oo, oo, oo, oo, oo, oo, oo, oo, oo, oo, oo, oo, oo, oo, oo, oo, oo, oo, oo, oo, oo, oo, oo, oo, oo, oo, oo, oo, oo, oo, oo, oo, oo]
def T89_2 (x_0 : OA) (x_4 : Int) (l2_0 l2_1 : AV) (l2_2 l2_3 : AV) : LF := [(some (.v (.ptr x_0))), none, (some (.lptr 2 0)), none, (some (.v (.int .i64 x_4))), oo, oo, oo, oo, oo, oo, oo, oo, oo, oo, oo, oo, oo, oo, oo, oo, oo, oo, oo, oo, oo, oo, oo, oo, oo, oo, oo, oo, oo, oo, oo, oo, oo, oo, oo, oo, oo, oo, oo, oo, oo, oo, oo, oo, oo, oo, oo, oo, oo, oo, oo, oo, oo, oo, oo, oo, oo, oo, oo, oo, oo, oo, oo, oo, oo, oo, oo, oo, oo, oo, oo, oo, oo, oo, oo, oo, oo]
def L89_2 (x_0 : OA) (x_4 : Int) (l2_0 l2_1 : AV) (l2_2 l2_3 : AV) : LL := [none, none, (some (.cells [l2_0, l2_1, l2_2, l2_3])), oo, oo, oo, oo, oo, oo, oo, oo, oo, oo, oo, oo, oo, oo, oo, oo, oo, oo, oo, oo, oo, oo, oo, oo, oo, oo, oo, oo, oo, oo, oo, oo, oo, oo, oo, oo, oo, oo, oo, oo, oo, oo, oo, oo, oo, oo, oo, oo, oo, oo, oo, oo, oo, oo, oo, oo, oo, oo, oo, oo, oo, oo, oo, oo, oo, oo, oo, oo, oo, oo, oo, oo, oo, oo, oo, oo, oo, oo, oo]
def T89_3 (x_0 : OA) (x_4 : Int) (x_25 : Bool) (l2_0 l2_1 : AV) (l2_2 l2_3 : AV) : LF := [(some (.v (.ptr x_0))), none, (some (.lptr 2 0)), none, (some (.v (.int .i64 x_4))), oo, oo, oo, oo, oo, oo, oo, oo, oo, oo, oo, oo, oo, oo, oo, oo, oo, oo, oo, oo, (some (.v (.bool x_25))), oo, oo, oo, oo, oo, oo, oo, oo, oo, oo, oo, oo, oo, oo, oo, oo, oo, oo, oo, oo, oo, oo, oo, oo, oo, oo, oo, oo, oo, oo, oo, oo, oo, oo, oo, oo, oo, oo, oo, oo, oo, oo, oo, oo, oo, oo, oo, oo, oo, oo, oo, oo, oo, oo, oo, oo]
def L89_3 (x_0 : OA) (x_4 : Int) (x_25 : Bool) (l2_0 l2_1 : AV) (l2_2 l2_3 : AV) : LL := [none, none, (some (.cells [l2_0, l2_1, l2_2, l2_3])), oo, oo, oo, oo, oo, oo, oo, oo, oo, oo, oo, oo, oo, oo, oo, oo, oo, oo, oo, oo, oo, oo, oo, oo, oo, oo, oo, oo, oo, oo, oo, oo, oo, oo, oo, oo, oo, oo, oo, oo, oo, oo, oo, oo, oo, oo, oo, oo, oo, oo, oo, oo, oo, oo, oo, oo, oo, oo, oo, oo, oo, oo, oo, oo, oo, oo, oo, oo, oo, oo, oo, oo, oo, oo, oo, oo, oo, oo, oo]
def T89_4 (x_0 : OA) (x_4 x_6 : Int) (l2_0 l2_1 : AV) (l2_2 l2_3 : AV) (l5_0 l5_1 : AV) (l5_2 l5_3 : AV) : LF := [(some (.v (.ptr x_0))), none, (some (.lptr 2 0)), none, (some (.v (.int .i64 x_4))), (some (.lptr 5 0)), (some (.v (.int .i64 x_6))), oo, oo, oo, oo, oo, oo, oo, oo, oo, oo, oo, oo, oo, oo, oo, oo, oo, oo, oo, oo, oo, oo, oo, oo, oo, oo, oo, oo, oo, oo, oo, oo, oo, oo, oo, oo, oo, oo, oo, oo, oo, oo, oo, oo, oo, oo, oo, oo, oo, oo, oo, oo, oo, oo, oo, oo, oo, oo, oo, oo, oo, oo, oo, oo, oo, oo, oo, oo, oo, oo, oo, oo, oo, oo, oo]
def L89_4 (x_0 : OA) (x_4 x_6 : Int) (l2_0 l2_1 : AV) (l2_2 l2_3 : AV) (l5_0 l5_1 : AV) (l5_2 l5_3 : AV) : LL := [none, none, (some (.cells [l2_0, l2_1, l2_2, l2_3])), none, none, (some (.cells [l5_0, l5_1, l5_2, l5_3])), oo, oo, oo, oo, oo, oo, oo, oo, oo, oo, oo, oo, oo, oo, oo, oo, oo, oo, oo, oo, oo, oo, oo, oo, oo, oo, oo, oo, oo, oo, oo, oo, oo, oo, oo, oo, oo, oo, oo, oo, oo, oo, oo, oo, oo, oo, oo, oo, oo, oo, oo, oo, oo, oo, oo, oo, oo, oo, oo, oo, oo, oo, oo, oo, oo, oo, oo, oo, oo, oo, oo, oo, oo, oo, oo, oo]
def T89_5 (x_0 : OA) (x_4 x_6 : Int) (x_52 : Bool) (l2_0 l2_1 : AV) (l2_2 l2_3 : AV) (l5_0 l5_1 : AV) (l5_2 l5_3 : AV) : LF := [(some (.v (.ptr x_0))), none, (some (.lptr 2 0)), none, (some (.v (.int .i64 x_4))), (some (.lptr 5 0)), (some (.v (.int .i64 x_6))), oo, oo, oo, oo, oo, oo, oo, oo, oo, oo, oo, oo, oo, oo, oo, oo, oo, oo, oo, oo, oo, oo, oo, oo, oo, oo, oo, oo, oo, oo, oo, oo, oo, oo, oo, oo, oo, oo, oo, oo, oo, oo, oo, oo, oo, (some (.v (.bool x_52))), oo, oo, oo, oo, oo, oo, oo, oo, oo, oo, oo, oo, oo, oo, oo, oo, oo, oo, oo, oo, oo, oo, oo, oo, oo, oo, oo, oo, oo]
def L89_5 (x_0 : OA) (x_4 x_6 : Int) (x_52 : Bool) (l2_0 l2_1 : AV) (l2_2 l2_3 : AV) (l5_0 l5_1 : AV) (l5_2 l5_3 : AV) : LL := [none, none, (some (.cells [l2_0, l2_1, l2_2, l2_3])), none, none, (some (.cells [l5_0, l5_1, l5_2, l5_3])), oo, oo, oo, oo, oo, oo, oo, oo, oo, oo, oo, oo, oo, oo, oo, oo, oo, oo, oo, oo, oo, oo, oo, oo, oo, oo, oo, oo, oo, oo, oo, oo, oo, oo, oo, oo, oo, oo, oo, oo, oo, oo, oo, oo, oo, oo, oo, oo, oo, oo, oo, oo, oo, oo, oo, oo, oo, oo, oo, oo, oo, oo, oo, oo, oo, oo, oo, oo, oo, oo, oo, oo, oo, oo, oo, oo]
def T89_6 (x_4 : Int) (l2_0 l2_1 : AV) (l2_2 l2_3 : AV) (l5_0 l5_1 : AV) (l5_2 l5_3 : AV) : LF := [none, none, (some (.lptr 2 0)), none, (some (.v (.int .i64 x_4))), (some (.lptr 5 0)), oo, oo, oo, oo, oo, oo, oo, oo, oo, oo, oo, oo, oo, oo, oo, oo, oo, oo, oo, oo, oo, oo, oo, oo, oo, oo, oo, oo, oo, oo, oo, oo, oo, oo, oo, oo, oo, oo, oo, oo, oo, oo, oo, oo, oo, oo, oo, oo, oo, oo, oo, oo, oo, oo, oo, oo, oo, oo, oo, oo, oo, oo, oo, oo, oo, oo, oo, oo, oo, oo, oo, oo, oo, oo, oo, oo]
def L89_6 (x_4 : Int) (l2_0 l2_1 : AV) (l2_2 l2_3 : AV) (l5_0 l5_1 : AV) (l5_2 l5_3 : AV) : LL := [none, none, (some (.cells [l2_0, l2_1, l2_2, l2_3])), none, none, (some (.cells [l5_0, l5_1, l5_2, l5_3])), oo, oo, oo, oo, oo, oo, oo, oo, oo, oo, oo, oo, oo, oo, oo, oo, oo, oo, oo, oo, oo, oo, oo, oo, oo, oo, oo, oo, oo, oo, oo, oo, oo, oo, oo, oo, oo, oo, oo, oo, oo, oo, oo, oo, oo, oo, oo, oo, oo, oo, oo, oo, oo, oo, oo, oo, oo, oo, oo, oo, oo, oo, oo, oo, oo, oo, oo, oo, oo, oo, oo, oo, oo, oo, oo, oo]
theorem R89_2 (N : Nat) (call : CT) (D1 : K3) (x_0 : OA) (x_4 : Int) (l2_0 l2_1 : AV) (l2_2 l2_3 : AV) (h : H) : E89_2 N call D1 (T89_2 x_0 x_4 l2_0 l2_1 l2_2 l2_3) (L89_2 x_0 x_4 l2_0 l2_1 l2_2 l2_3) h = S89_2 call (fun (x_0 : OA) (x_4 : Int) (l2_0 l2_1 : AV) (l2_2 l2_3 : AV) h => D1 (T89_1 x_0 x_4 l2_0 l2_1 l2_2 l2_3) (L89_1 x_0 x_4 l2_0 l2_1 l2_2 l2_3) h) x_0 x_4 l2_0 l2_1 l2_2 l2_3 h := by kernel_rfl
theorem Z89_2 (N : Nat) (call : CT) (D1 : K3) (x_0 : OA) (x_4 : Int) (l2_0 l2_1 : AV) (l2_2 l2_3 : AV) (h : H) : E89_2 N call D1 (T89_2 x_0 x_4 l2_0 l2_1 l2_2 l2_3) (L89_2 x_0 x_4 l2_0 l2_1 l2_2 l2_3) h = C89_2 N call (fun (x_0 : OA) (x_4 : Int) (l2_0 l2_1 : AV) (l2_2 l2_3 : AV) h => D1 (T89_1 x_0 x_4 l2_0 l2_1 l2_2 l2_3) (L89_1 x_0 x_4 l2_0 l2_1 l2_2 l2_3) h) x_0 x_4 l2_0 l2_1 l2_2 l2_3 h := by
  have r := R89_2 N call D1 x_0 x_4 l2_0 l2_1 l2_2 l2_3 h
  have z : S89_2 call (fun (x_0 : OA) (x_4 : Int) (l2_0 l2_1 : AV) (l2_2 l2_3 : AV) h => D1 (T89_1 x_0 x_4 l2_0 l2_1 l2_2 l2_3) (L89_1 x_0 x_4 l2_0 l2_1 l2_2 l2_3) h) x_0 x_4 l2_0 l2_1 l2_2 l2_3 h = C89_2 N call (fun (x_0 : OA) (x_4 : Int) (l2_0 l2_1 : AV) (l2_2 l2_3 : AV) h => D1 (T89_1 x_0 x_4 l2_0 l2_1 l2_2 l2_3) (L89_1 x_0 x_4 l2_0 l2_1 l2_2 l2_3) h) x_0 x_4 l2_0 l2_1 l2_2 l2_3 h := by kernel_rfl
  exact r.trans z
theorem R89_6 (N : Nat) (call : CT) (x_4 : Int) (l2_0 l2_1 : AV) (l2_2 l2_3 : AV) (l5_0 l5_1 : AV) (l5_2 l5_3 : AV) (h : H) : E89_6 N call (T89_6 x_4 l2_0 l2_1 l2_2 l2_3 l5_0 l5_1 l5_2 l5_3) (L89_6 x_4 l2_0 l2_1 l2_2 l2_3 l5_0 l5_1 l5_2 l5_3) h = S89_6 call x_4 l2_0 l2_1 l2_2 l2_3 l5_0 l5_1 l5_2 l5_3 h := by kernel_rfl
theorem Z89_6 (N : Nat) (call : CT) (x_4 : Int) (l2_0 l2_1 : AV) (l2_2 l2_3 : AV) (l5_0 l5_1 : AV) (l5_2 l5_3 : AV) (h : H) : E89_6 N call (T89_6 x_4 l2_0 l2_1 l2_2 l2_3 l5_0 l5_1 l5_2 l5_3) (L89_6 x_4 l2_0 l2_1 l2_2 l2_3 l5_0 l5_1 l5_2 l5_3) h = C89_6 N call x_4 l2_0 l2_1 l2_2 l2_3 l5_0 l5_1 l5_2 l5_3 h := by
  have r := R89_6 N call x_4 l2_0 l2_1 l2_2 l2_3 l5_0 l5_1 l5_2 l5_3 h
  have z : S89_6 call x_4 l2_0 l2_1 l2_2 l2_3 l5_0 l5_1 l5_2 l5_3 h = C89_6 N call x_4 l2_0 l2_1 l2_2 l2_3 l5_0 l5_1 l5_2 l5_3 h := by kernel_rfl
  exact r.trans z
theorem R89_4 (N : Nat) (call : CT) (x_0 : OA) (x_4 x_6 : Int) (l2_0 l2_1 : AV) (l2_2 l2_3 : AV) (l5_0 l5_1 : AV) (l5_2 l5_3 : AV) (h : H) : E89_4 N call (T89_4 x_0 x_4 x_6 l2_0 l2_1 l2_2 l2_3 l5_0 l5_1 l5_2 l5_3) (L89_4 x_0 x_4 x_6 l2_0 l2_1 l2_2 l2_3 l5_0 l5_1 l5_2 l5_3) h = S89_4 call (fun (x_4 : Int) (l2_0 l2_1 : AV) (l2_2 l2_3 : AV) (l5_0 l5_1 : AV) (l5_2 l5_3 : AV) h => (E89_6 N call) (T89_6 x_4 l2_0 l2_1 l2_2 l2_3 l5_0 l5_1 l5_2 l5_3) (L89_6 x_4 l2_0 l2_1 l2_2 l2_3 l5_0 l5_1 l5_2 l5_3) h) x_0 x_4 x_6 l2_0 l2_1 l2_2 l2_3 l5_0 l5_1 l5_2 l5_3 h := by kernel_rfl
theorem Z89_4 (N : Nat) (call : CT) (x_0 : OA) (x_4 x_6 : Int) (l2_0 l2_1 : AV) (l2_2 l2_3 : AV) (l5_0 l5_1 : AV) (l5_2 l5_3 : AV) (h : H) : E89_4 N call (T89_4 x_0 x_4 x_6 l2_0 l2_1 l2_2 l2_3 l5_0 l5_1 l5_2 l5_3) (L89_4 x_0 x_4 x_6 l2_0 l2_1 l2_2 l2_3 l5_0 l5_1 l5_2 l5_3) h = C89_4 N call x_0 x_4 x_6 l2_0 l2_1 l2_2 l2_3 l5_0 l5_1 l5_2 l5_3 h := by
  have e6 : (fun (x_4 : Int) (l2_0 l2_1 : AV) (l2_2 l2_3 : AV) (l5_0 l5_1 : AV) (l5_2 l5_3 : AV) h => (E89_6 N call) (T89_6 x_4 l2_0 l2_1 l2_2 l2_3 l5_0 l5_1 l5_2 l5_3) (L89_6 x_4 l2_0 l2_1 l2_2 l2_3 l5_0 l5_1 l5_2 l5_3) h) = (C89_6 N call) := by
    funext x_4 l2_0 l2_1 l2_2 l2_3 l5_0 l5_1 l5_2 l5_3 h
    exact Z89_6 N call x_4 l2_0 l2_1 l2_2 l2_3 l5_0 l5_1 l5_2 l5_3 h
  have r := R89_4 N call x_0 x_4 x_6 l2_0 l2_1 l2_2 l2_3 l5_0 l5_1 l5_2 l5_3 h
  rw [e6] at r
  have z : S89_4 call (C89_6 N call) x_0 x_4 x_6 l2_0 l2_1 l2_2 l2_3 l5_0 l5_1 l5_2 l5_3 h = C89_4 N call x_0 x_4 x_6 l2_0 l2_1 l2_2 l2_3 l5_0 l5_1 l5_2 l5_3 h := by kernel_rfl
  exact r.trans z
theorem R89_5 (N : Nat) (call : CT) (x_0 : OA) (x_4 x_6 : Int) (x_52 : Bool) (l2_0 l2_1 : AV) (l2_2 l2_3 : AV) (l5_0 l5_1 : AV) (l5_2 l5_3 : AV) (h : H) : E89_5 N call (T89_5 x_0 x_4 x_6 x_52 l2_0 l2_1 l2_2 l2_3 l5_0 l5_1 l5_2 l5_3) (L89_5 x_0 x_4 x_6 x_52 l2_0 l2_1 l2_2 l2_3 l5_0 l5_1 l5_2 l5_3) h = S89_5 call (fun (x_0 : OA) (x_4 x_6 : Int) (l2_0 l2_1 : AV) (l2_2 l2_3 : AV) (l5_0 l5_1 : AV) (l5_2 l5_3 : AV) h => (E89_4 N call) (T89_4 x_0 x_4 x_6 l2_0 l2_1 l2_2 l2_3 l5_0 l5_1 l5_2 l5_3) (L89_4 x_0 x_4 x_6 l2_0 l2_1 l2_2 l2_3 l5_0 l5_1 l5_2 l5_3) h) x_0 x_4 x_6 x_52 l2_0 l2_1 l2_2 l2_3 l5_0 l5_1 l5_2 l5_3 h := by kernel_rfl
theorem Z89_5 (N : Nat) (call : CT) (x_0 : OA) (x_4 x_6 : Int) (x_52 : Bool) (l2_0 l2_1 : AV) (l2_2 l2_3 : AV) (l5_0 l5_1 : AV) (l5_2 l5_3 : AV) (h : H) : E89_5 N call (T89_5 x_0 x_4 x_6 x_52 l2_0 l2_1 l2_2 l2_3 l5_0 l5_1 l5_2 l5_3) (L89_5 x_0 x_4 x_6 x_52 l2_0 l2_1 l2_2 l2_3 l5_0 l5_1 l5_2 l5_3) h = C89_5 N call x_0 x_4 x_6 x_52 l2_0 l2_1 l2_2 l2_3 l5_0 l5_1 l5_2 l5_3 h := by
  have e4 : (fun (x_0 : OA) (x_4 x_6 : Int) (l2_0 l2_1 : AV) (l2_2 l2_3 : AV) (l5_0 l5_1 : AV) (l5_2 l5_3 : AV) h => (E89_4 N call) (T89_4 x_0 x_4 x_6 l2_0 l2_1 l2_2 l2_3 l5_0 l5_1 l5_2 l5_3) (L89_4 x_0 x_4 x_6 l2_0 l2_1 l2_2 l2_3 l5_0 l5_1 l5_2 l5_3) h) = (C89_4 N call) := by
    funext x_0 x_4 x_6 l2_0 l2_1 l2_2 l2_3 l5_0 l5_1 l5_2 l5_3 h
    exact Z89_4 N call x_0 x_4 x_6 l2_0 l2_1 l2_2 l2_3 l5_0 l5_1 l5_2 l5_3 h
  have r := R89_5 N call x_0 x_4 x_6 x_52 l2_0 l2_1 l2_2 l2_3 l5_0 l5_1 l5_2 l5_3 h
  rw [e4] at r
  have z : S89_5 call (C89_4 N call) x_0 x_4 x_6 x_52 l2_0 l2_1 l2_2 l2_3 l5_0 l5_1 l5_2 l5_3 h = C89_5 N call x_0 x_4 x_6 x_52 l2_0 l2_1 l2_2 l2_3 l5_0 l5_1 l5_2 l5_3 h := by kernel_rfl
  exact r.trans z
theorem R89_3 (N : Nat) (call : CT) (D1 : K3) (x_0 : OA) (x_4 : Int) (x_25 : Bool) (l2_0 l2_1 : AV) (l2_2 l2_3 : AV) (h : H) : E89_3 N call D1 (T89_3 x_0 x_4 x_25 l2_0 l2_1 l2_2 l2_3) (L89_3 x_0 x_4 x_25 l2_0 l2_1 l2_2 l2_3) h = S89_3 call (fun (x_0 : OA) (x_4 : Int) (l2_0 l2_1 : AV) (l2_2 l2_3 : AV) h => (E89_2 N call D1) (T89_2 x_0 x_4 l2_0 l2_1 l2_2 l2_3) (L89_2 x_0 x_4 l2_0 l2_1 l2_2 l2_3) h) (fun (x_0 : OA) (x_4 x_6 : Int) (x_52 : Bool) (l2_0 l2_1 : AV) (l2_2 l2_3 : AV) (l5_0 l5_1 : AV) (l5_2 l5_3 : AV) h => (E89_5 N call) (T89_5 x_0 x_4 x_6 x_52 l2_0 l2_1 l2_2 l2_3 l5_0 l5_1 l5_2 l5_3) (L89_5 x_0 x_4 x_6 x_52 l2_0 l2_1 l2_2 l2_3 l5_0 l5_1 l5_2 l5_3) h) x_0 x_4 x_25 l2_0 l2_1 l2_2 l2_3 h := by kernel_rfl
theorem Z89_3 (N : Nat) (call : CT) (D1 : K3) (x_0 : OA) (x_4 : Int) (x_25 : Bool) (l2_0 l2_1 : AV) (l2_2 l2_3 : AV) (h : H) : E89_3 N call D1 (T89_3 x_0 x_4 x_25 l2_0 l2_1 l2_2 l2_3) (L89_3 x_0 x_4 x_25 l2_0 l2_1 l2_2 l2_3) h = C89_3 N call (fun (x_0 : OA) (x_4 : Int) (l2_0 l2_1 : AV) (l2_2 l2_3 : AV) h => D1 (T89_1 x_0 x_4 l2_0 l2_1 l2_2 l2_3) (L89_1 x_0 x_4 l2_0 l2_1 l2_2 l2_3) h) x_0 x_4 x_25 l2_0 l2_1 l2_2 l2_3 h := by
  have e2 : (fun (x_0 : OA) (x_4 : Int) (l2_0 l2_1 : AV) (l2_2 l2_3 : AV) h => (E89_2 N call D1) (T89_2 x_0 x_4 l2_0 l2_1 l2_2 l2_3) (L89_2 x_0 x_4 l2_0 l2_1 l2_2 l2_3) h) = (C89_2 N call (fun (x_0 : OA) (x_4 : Int) (l2_0 l2_1 : AV) (l2_2 l2_3 : AV) h => D1 (T89_1 x_0 x_4 l2_0 l2_1 l2_2 l2_3) (L89_1 x_0 x_4 l2_0 l2_1 l2_2 l2_3) h)) := by
    funext x_0 x_4 l2_0 l2_1 l2_2 l2_3 h
    exact Z89_2 N call D1 x_0 x_4 l2_0 l2_1 l2_2 l2_3 h
  have e5 : (fun (x_0 : OA) (x_4 x_6 : Int) (x_52 : Bool) (l2_0 l2_1 : AV) (l2_2 l2_3 : AV) (l5_0 l5_1 : AV) (l5_2 l5_3 : AV) h => (E89_5 N call) (T89_5 x_0 x_4 x_6 x_52 l2_0 l2_1 l2_2 l2_3 l5_0 l5_1 l5_2 l5_3) (L89_5 x_0 x_4 x_6 x_52 l2_0 l2_1 l2_2 l2_3 l5_0 l5_1 l5_2 l5_3) h) = (C89_5 N call) := by
    funext x_0 x_4 x_6 x_52 l2_0 l2_1 l2_2 l2_3 l5_0 l5_1 l5_2 l5_3 h
    exact Z89_5 N call x_0 x_4 x_6 x_52 l2_0 l2_1 l2_2 l2_3 l5_0 l5_1 l5_2 l5_3 h
  have r := R89_3 N call D1 x_0 x_4 x_25 l2_0 l2_1 l2_2 l2_3 h
  rw [e2, e5] at r
  have z : S89_3 call (C89_2 N call (fun (x_0 : OA) (x_4 : Int) (l2_0 l2_1 : AV) (l2_2 l2_3 : AV) h => D1 (T89_1 x_0 x_4 l2_0 l2_1 l2_2 l2_3) (L89_1 x_0 x_4 l2_0 l2_1 l2_2 l2_3) h)) (C89_5 N call) x_0 x_4 x_25 l2_0 l2_1 l2_2 l2_3 h = C89_3 N call (fun (x_0 : OA) (x_4 : Int) (l2_0 l2_1 : AV) (l2_2 l2_3 : AV) h => D1 (T89_1 x_0 x_4 l2_0 l2_1 l2_2 l2_3) (L89_1 x_0 x_4 l2_0 l2_1 l2_2 l2_3) h) x_0 x_4 x_25 l2_0 l2_1 l2_2 l2_3 h := by kernel_rfl
  exact r.trans z
theorem R89_1 (N : Nat) (call : CT) (self : K3) (x_0 : OA) (x_4 : Int) (l2_0 l2_1 : AV) (l2_2 l2_3 : AV) (h : H) : F89_1 N call self (T89_1 x_0 x_4 l2_0 l2_1 l2_2 l2_3) (L89_1 x_0 x_4 l2_0 l2_1 l2_2 l2_3) h = S89_1 call (fun (x_0 : OA) (x_4 : Int) (x_25 : Bool) (l2_0 l2_1 : AV) (l2_2 l2_3 : AV) h => (E89_3 N call self) (T89_3 x_0 x_4 x_25 l2_0 l2_1 l2_2 l2_3) (L89_3 x_0 x_4 x_25 l2_0 l2_1 l2_2 l2_3) h) x_0 x_4 l2_0 l2_1 l2_2 l2_3 h := by kernel_rfl
theorem Q89_1 (N : Nat) (call : CT) (n : Nat) : ∀ (x_0 : OA) (x_4 : Int) (l2_0 l2_1 : AV) (l2_2 l2_3 : AV) (h : H), (iter (F89_1 N call) n) (T89_1 x_0 x_4 l2_0 l2_1 l2_2 l2_3) (L89_1 x_0 x_4 l2_0 l2_1 l2_2 l2_3) h = I89_1 N call n x_0 x_4 l2_0 l2_1 l2_2 l2_3 h := by
  induction n with
  | zero => intros; exact (iter_zero _ _ _ _).trans (by kernel_rfl)
  | succ n ih =>
    intro x_0 x_4 l2_0 l2_1 l2_2 l2_3 h
    have e0 : (fun (x_0 : OA) (x_4 : Int) (l2_0 l2_1 : AV) (l2_2 l2_3 : AV) h => (iter (F89_1 N call) n) (T89_1 x_0 x_4 l2_0 l2_1 l2_2 l2_3) (L89_1 x_0 x_4 l2_0 l2_1 l2_2 l2_3) h) = (I89_1 N call n) := by funext x_0 x_4 l2_0 l2_1 l2_2 l2_3 h; exact ih x_0 x_4 l2_0 l2_1 l2_2 l2_3 h
    have e3 : (fun (x_0 : OA) (x_4 : Int) (x_25 : Bool) (l2_0 l2_1 : AV) (l2_2 l2_3 : AV) h => (E89_3 N call (iter (F89_1 N call) n)) (T89_3 x_0 x_4 x_25 l2_0 l2_1 l2_2 l2_3) (L89_3 x_0 x_4 x_25 l2_0 l2_1 l2_2 l2_3) h) = (C89_3 N call (I89_1 N call n)) := by
      funext x_0 x_4 x_25 l2_0 l2_1 l2_2 l2_3 h
      have q := Z89_3 N call (iter (F89_1 N call) n) x_0 x_4 x_25 l2_0 l2_1 l2_2 l2_3 h
      rw [e0] at q
      exact q
    have r := R89_1 N call (iter (F89_1 N call) n) x_0 x_4 l2_0 l2_1 l2_2 l2_3 h
    rw [e3] at r
    have g := iter_succ (F89_1 N call) n (T89_1 x_0 x_4 l2_0 l2_1 l2_2 l2_3) (L89_1 x_0 x_4 l2_0 l2_1 l2_2 l2_3) h
    have z : S89_1 call (C89_3 N call (I89_1 N call n)) x_0 x_4 l2_0 l2_1 l2_2 l2_3 h = I89_1 N call (n + 1) x_0 x_4 l2_0 l2_1 l2_2 l2_3 h := by kernel_rfl
    exact g.trans (r.trans z)
theorem Z89_1 (N : Nat) (call : CT) (x_0 : OA) (x_4 : Int) (l2_0 l2_1 : AV) (l2_2 l2_3 : AV) (h : H) : (E89_1 N call) (T89_1 x_0 x_4 l2_0 l2_1 l2_2 l2_3) (L89_1 x_0 x_4 l2_0 l2_1 l2_2 l2_3) h = C89_1 N call x_0 x_4 l2_0 l2_1 l2_2 l2_3 h := by
  have g : (E89_1 N call) (T89_1 x_0 x_4 l2_0 l2_1 l2_2 l2_3) (L89_1 x_0 x_4 l2_0 l2_1 l2_2 l2_3) h = iter (F89_1 N call) N (T89_1 x_0 x_4 l2_0 l2_1 l2_2 l2_3) (L89_1 x_0 x_4 l2_0 l2_1 l2_2 l2_3) h := by kernel_rfl
  have z : I89_1 N call N x_0 x_4 l2_0 l2_1 l2_2 l2_3 h = C89_1 N call x_0 x_4 l2_0 l2_1 l2_2 l2_3 h := by kernel_rfl
  exact g.trans ((Q89_1 N call N x_0 x_4 l2_0 l2_1 l2_2 l2_3 h).trans z)
theorem R89_0 (N : Nat) (call : CT) (y0 : AV) (h : H) : body Tryz.prog N call Tryz.f89 A89.an [y0] h = S89_0 call (fun (x_0 : OA) (x_4 : Int) (l2_0 l2_1 : AV) (l2_2 l2_3 : AV) h => (E89_1 N call) (T89_1 x_0 x_4 l2_0 l2_1 l2_2 l2_3) (L89_1 x_0 x_4 l2_0 l2_1 l2_2 l2_3) h) y0 h := by kernel_rfl
theorem Z89 (N : Nat) (call : CT) (y0 : AV) (h : H) : body Tryz.prog N call Tryz.f89 A89.an [y0] h = S89 N call y0 h := by
  have e1 : (fun (x_0 : OA) (x_4 : Int) (l2_0 l2_1 : AV) (l2_2 l2_3 : AV) h => (E89_1 N call) (T89_1 x_0 x_4 l2_0 l2_1 l2_2 l2_3) (L89_1 x_0 x_4 l2_0 l2_1 l2_2 l2_3) h) = (C89_1 N call) := by
    funext x_0 x_4 l2_0 l2_1 l2_2 l2_3 h
    exact Z89_1 N call x_0 x_4 l2_0 l2_1 l2_2 l2_3 h
  have r := R89_0 N call y0 h
  rw [e1] at r
  have z : S89_0 call (C89_1 N call) y0 h = S89 N call y0 h := by kernel_rfl
  exact r.trans z
theorem V89 (N : Nat) (call : CT) (vs : List AV) (h : H) : body Tryz.prog N call Tryz.f89 A89.an vs h = row1 (fun y0 => S89 N call y0 h) vs := wrap1 (by kernel_rfl) (fun y0 => Z89 N call y0 h) vs
/- (*sibyl/sibylref2.reader).number -/
def A90.a0 : Ann := .items [.opL 0, .op 1]
def A90.a1 : Ann := .items [.op 0, .op 1, .op 2, .opL 3, .op 4]
def A90.a2 : Ann := .items [.op 0, .op 1, .op 2]
def A90.a3 : Ann := .items [.op 0]
def A90.a4 : Ann := .items [.op 0, .op 1, .op 2, .op 3]
def A90.a5 : Ann := .leaf
def A90.a6 : Ann := .leaf
def A90.a7 : Ann := .two A90.a5 A90.a6
def A90.a8 : Ann := .two A90.a4 A90.a7
def A90.a9 : Ann := .drawn [.op 0, .op 1, .op 2, .op 3, .op 4, .op 5, .op 6, .op 7, .op 8, .op 9, .op 10, .op 11, .op 12, .op 13, .op 14, .op 15, .op 16, .op 17, .op 18, .op 19, .op 20, .op 21]
def A90.a10 : Ann := .items [.op 0, .op 1, .op 2]
def A90.a11 : Ann := .two A90.a9 A90.a10
def A90.a12 : Ann := .one A90.a11
def A90.a13 : Ann := .two A90.a8 A90.a12
def A90.a14 : Ann := .meet [0, 2, 4, 5, 6] [2, 4] A90.a13
def A90.a15 : Ann := .one A90.a14
def A90.a16 : Ann := .items [.op 0, .op 1, .op 2, .op 3, .op 4, .op 5, .op 6, .op 7, .op 8, .op 9]
def A90.a17 : Ann := .items [.op 0, .op 1, .op 2, .op 3, .op 4, .split 52, .op 5, .op 6, .split 54, .op 7, .op 8, .op 9, .op 10, .op 11, .op 12, .op 13]
def A90.a18 : Ann := .leaf
def A90.a19 : Ann := .two A90.a17 A90.a18
def A90.a20 : Ann := .two A90.a16 A90.a19
def A90.a21 : Ann := .two A90.a15 A90.a20
def A90.a22 : Ann := .two A90.a3 A90.a21
def A90.a23 : Ann := .two A90.a2 A90.a22
def A90.a24 : Ann := .two A90.a1 A90.a23
def A90.an : Ann := .two A90.a0 A90.a24
def F90_1 (N : Nat) (call : CT) (self : K3) : K3 :=
  (codeK Tryz.prog N call (c1 (c1 (c1 (c2 (c2 (c2 (c2 (bodyOf Tryz.f90)))))))) A90.a13 (fun T L h => self (keepT [0, 2, 4, 5, 6] T) (keepL [2, 4] L) h) (fun i T L h => match Nat.beq i 0 with | true => (codeK Tryz.prog N call (c2 (c2 (c2 (c2 (c2 (bodyOf Tryz.f90)))))) A90.a20 (resK Tryz.prog Tryz.f90.results.toList) (fun _ _ _ _ => none) (resK Tryz.prog Tryz.f90.results.toList)) T L h | false => (fun _ _ _ _ => none) i T L h) (resK Tryz.prog Tryz.f90.results.toList))
def E90_1 (N : Nat) (call : CT) : K3 := iter (F90_1 N call) N
def S90_1 (call : CT) (k1 : OA → Bool → Int → AV → AV → AV → AV → AV → AV → AV → AV → H → R) (x_0 : OA) (x_5 : Bool) (x_6 : Int) (l2_0 l2_1 : AV) (l2_2 l2_3 : AV) (l4_0 l4_1 : AV) (l4_2 l4_3 : AV) (h : H) : R :=
  bindR (call 87 [(.ptr x_0), (.int .i64 x_6)] h) (fun v1 h2 => onInt .i64 v1 (fun i3 => ifB (eqI i3 (Int.ofNat 2)) (onInt .i64 l4_2 (fun i4 => onSome x_0 (fun b5 o6 => ldK h2 b5 (o6 + 1) 1 (one (fun v7 => onSlice v7 (fun a8 n9 c10 => onSome x_0 (fun b11 o12 => ldK h2 b11 (o12 + 3) 1 (one (fun v13 => onInt .i64 v13 (fun i14 => idxAddr 2 a8 n9 (wrapF .i64 (Int.add i14 x_6)) (fun b15 o16 => ldK h2 b15 (o16 + 0) 1 (one (fun v17 => onInt .i32 v17 (fun i18 => k1 x_0 x_5 (wrapF .i64 (Int.add x_6 (Int.ofNat 1))) l2_0 l2_1 l2_2 l2_3 l4_0 l4_1 (.int .i64 (minI (wrapF .i64 (Int.add (wrapF .i64 (Int.mul (Int.ofNat 10) i4)) (wrapF .i64 (wrapF .i32 (Int.sub i18 (Int.ofNat 48)))))) (Int.ofNat 1000))) l4_3 h2)))))))))))))) (onSome x_0 (fun b19 o20 => ldK h2 b19 (o20 + 3) 1 (one (fun v21 => onInt .i64 v21 (fun i22 => onSome x_0 (fun b23 o24 => stK h2 b23 (o24 + 3) [(.int .i64 (wrapF .i64 (Int.add i22 x_6)))] (fun h25 => onInt .i64 l4_2 (fun i26 => ifB (leI i26 (Int.ofNat 99)) (ifB x_5 (some (.tuple [(.agg [l4_0, l4_1, l4_2, l4_3]), (.bool (!(ltI (Int.ofNat 1) x_6)))], h25)) (some (.tuple [(.agg [l4_0, l4_1, l4_2, l4_3]), (.bool true)], h25))) (some (.tuple [(.agg [l4_0, l4_1, l4_2, l4_3]), (.bool false)], h25))))))))))))
def S90_0 (call : CT) (k1 : OA → Bool → Int → AV → AV → AV → AV → AV → AV → AV → AV → H → R) (y0 : AV) (h : H) : R :=
  onPtr y0 (fun p1 => bindR (call 53 [(.ptr p1), (.int .i64 (Int.ofNat 0))] h) (fun v2 h3 => onInt .i64 v2 (fun i4 => bindR (call 88 [(.ptr p1), (.int .i64 (Int.ofNat 0)), (.int .i32 (Int.ofNat 48))] h3) (fun v5 h6 => onBool v5 (fun e7 => k1 p1 e7 (Int.ofNat 0) (.int .i64 (Int.ofNat 0)) (.str []) (.int .i64 (Int.ofNat 0)) (.int .i64 (Int.ofNat 0)) (.int .i64 (Int.ofNat 2)) (.str []) (.int .i64 (Int.ofNat 0)) (.int .i64 i4) h6)))))
def B90_1 (N : Nat) (call : CT) (ih : OA → Bool → Int → AV → AV → AV → AV → AV → AV → AV → AV → H → R) : OA → Bool → Int → AV → AV → AV → AV → AV → AV → AV → AV → H → R := S90_1 call ih
def I90_1 (N : Nat) (call : CT) (n : Nat) : OA → Bool → Int → AV → AV → AV → AV → AV → AV → AV → AV → H → R := Nat.rec (motive := fun _ => OA → Bool → Int → AV → AV → AV → AV → AV → AV → AV → AV → H → R) (fun _ _ _ _ _ _ _ _ _ _ _ _ => none) (fun _ ih => B90_1 N call ih) n
def C90_1 (N : Nat) (call : CT) : OA → Bool → Int → AV → AV → AV → AV → AV → AV → AV → AV → H → R := I90_1 N call N
def S90 (N : Nat) (call : CT) (y0 : AV) (h : H) : R := S90_0 call (C90_1 N call) y0 h
def T90_1 (x_0 : OA) (x_5 : Bool) (x_6 : Int) (l2_0 l2_1 : AV) (l2_2 l2_3 : AV) (l4_0 l4_1 : AV) (l4_2 l4_3 : AV) : LF := [(some (.v (.ptr x_0))), none, (some (.lptr 2 0)), none, (some (.lptr 4 0)), (some (.v (.bool x_5))), (some (.v (.int .i64 x_6))), oo, oo, oo, oo, oo, oo, oo, oo, oo, oo, oo, oo, oo, oo, oo, oo, oo, oo, oo, oo, oo, oo, oo, oo, oo, oo, oo, oo, oo, oo, oo, oo, oo, oo, oo, oo, oo, oo, oo, oo, oo, oo, oo, oo, oo, oo, oo, oo, oo, oo, oo, oo, oo]
def L90_1 (x_0 : OA) (x_5 : Bool) (x_6 : Int) (l2_0 l2_1 : AV) (l2_2 l2_3 : AV) (l4_0 l4_1 : AV) (l4_2 l4_3 : AV) : LL := [none, none, (some (.cells [l2_0, l2_1, l2_2, l2_3])), none, (some (.cells [l4_0, l4_1, l4_2, l4_3])), oo, oo, oo, oo, oo, oo, oo, oo, oo, oo, oo, oo, oo, oo, oo, oo, oo, oo, oo, oo, oo, oo, oo, oo, oo, oo, oo, oo, oo, oo, oo, oo, oo, oo, oo, oo, oo, oo, oo, oo, oo, oo, oo, oo, oo, oo, oo, oo, oo, oo, oo, oo, oo, oo, oo]
theorem R90_1 (N : Nat) (call : CT) (self : K3) (x_0 : OA) (x_5 : Bool) (x_6 : Int) (l2_0 l2_1 : AV) (l2_2 l2_3 : AV) (l4_0 l4_1 : AV) (l4_2 l4_3 : AV) (h : H) : F90_1 N call self (T90_1 x_0 x_5 x_6 l2_0 l2_1 l2_2 l2_3 l4_0 l4_1 l4_2 l4_3) (L90_1 x_0 x_5 x_6 l2_0 l2_1 l2_2 l2_3 l4_0 l4_1 l4_2 l4_3) h = S90_1 call (fun (x_0 : OA) (x_5 : Bool) (x_6 : Int) (l2_0 l2_1 : AV) (l2_2 l2_3 : AV) (l4_0 l4_1 : AV) (l4_2 l4_3 : AV) h => self (T90_1 x_0 x_5 x_6 l2_0 l2_1 l2_2 l2_3 l4_0 l4_1 l4_2 l4_3) (L90_1 x_0 x_5 x_6 l2_0 l2_1 l2_2 l2_3 l4_0 l4_1 l4_2 l4_3) h) x_0 x_5 x_6 l2_0 l2_1 l2_2 l2_3 l4_0 l4_1 l4_2 l4_3 h := by kernel_rfl
theorem Q90_1 (N : Nat) (call : CT) (n : Nat) : ∀ (x_0 : OA) (x_5 : Bool) (x_6 : Int) (l2_0 l2_1 : AV) (l2_2 l2_3 : AV) (l4_0 l4_1 : AV) (l4_2 l4_3 : AV) (h : H), (iter (F90_1 N call) n) (T90_1 x_0 x_5 x_6 l2_0 l2_1 l2_2 l2_3 l4_0 l4_1 l4_2 l4_3) (L90_1 x_0 x_5 x_6 l2_0 l2_1 l2_2 l2_3 l4_0 l4_1 l4_2 l4_3) h = I90_1 N call n x_0 x_5 x_6 l2_0 l2_1 l2_2 l2_3 l4_0 l4_1 l4_2 l4_3 h := by
  induction n with
  | zero => intros; exact (iter_zero _ _ _ _).trans (by kernel_rfl)
  | succ n ih =>
    intro x_0 x_5 x_6 l2_0 l2_1 l2_2 l2_3 l4_0 l4_1 l4_2 l4_3 h
    have e0 : (fun (x_0 : OA) (x_5 : Bool) (x_6 : Int) (l2_0 l2_1 : AV) (l2_2 l2_3 : AV) (l4_0 l4_1 : AV) (l4_2 l4_3 : AV) h => (iter (F90_1 N call) n) (T90_1 x_0 x_5 x_6 l2_0 l2_1 l2_2 l2_3 l4_0 l4_1 l4_2 l4_3) (L90_1 x_0 x_5 x_6 l2_0 l2_1 l2_2 l2_3 l4_0 l4_1 l4_2 l4_3) h) = (I90_1 N call n) := by funext x_0 x_5 x_6 l2_0 l2_1 l2_2 l2_3 l4_0 l4_1 l4_2 l4_3 h; exact ih x_0 x_5 x_6 l2_0 l2_1 l2_2 l2_3 l4_0 l4_1 l4_2 l4_3 h
    have r := R90_1 N call (iter (F90_1 N call) n) x_0 x_5 x_6 l2_0 l2_1 l2_2 l2_3 l4_0 l4_1 l4_2 l4_3 h
    rw [e0] at r
    have g := iter_succ (F90_1 N call) n (T90_1 x_0 x_5 x_6 l2_0 l2_1 l2_2 l2_3 l4_0 l4_1 l4_2 l4_3) (L90_1 x_0 x_5 x_6 l2_0 l2_1 l2_2 l2_3 l4_0 l4_1 l4_2 l4_3) h
    have z : S90_1 call (I90_1 N call n) x_0 x_5 x_6 l2_0 l2_1 l2_2 l2_3 l4_0 l4_1 l4_2 l4_3 h = I90_1 N call (n + 1) x_0 x_5 x_6 l2_0 l2_1 l2_2 l2_3 l4_0 l4_1 l4_2 l4_3 h := by kernel_rfl
    exact g.trans (r.trans z)
theorem Z90_1 (N : Nat) (call : CT) (x_0 : OA) (x_5 : Bool) (x_6 : Int) (l2_0 l2_1 : AV) (l2_2 l2_3 : AV) (l4_0 l4_1 : AV) (l4_2 l4_3 : AV) (h : H) : (E90_1 N call) (T90_1 x_0 x_5 x_6 l2_0 l2_1 l2_2 l2_3 l4_0 l4_1 l4_2 l4_3) (L90_1 x_0 x_5 x_6 l2_0 l2_1 l2_2 l2_3 l4_0 l4_1 l4_2 l4_3) h = C90_1 N call x_0 x_5 x_6 l2_0 l2_1 l2_2 l2_3 l4_0 l4_1 l4_2 l4_3 h := by
  have g : (E90_1 N call) (T90_1 x_0 x_5 x_6 l2_0 l2_1 l2_2 l2_3 l4_0 l4_1 l4_2 l4_3) (L90_1 x_0 x_5 x_6 l2_0 l2_1 l2_2 l2_3 l4_0 l4_1 l4_2 l4_3) h = iter (F90_1 N call) N (T90_1 x_0 x_5 x_6 l2_0 l2_1 l2_2 l2_3 l4_0 l4_1 l4_2 l4_3) (L90_1 x_0 x_5 x_6 l2_0 l2_1 l2_2 l2_3 l4_0 l4_1 l4_2 l4_3) h := by kernel_rfl
  have z : I90_1 N call N x_0 x_5 x_6 l2_0 l2_1 l2_2 l2_3 l4_0 l4_1 l4_2 l4_3 h = C90_1 N call x_0 x_5 x_6 l2_0 l2_1 l2_2 l2_3 l4_0 l4_1 l4_2 l4_3 h := by kernel_rfl
  exact g.trans ((Q90_1 N call N x_0 x_5 x_6 l2_0 l2_1 l2_2 l2_3 l4_0 l4_1 l4_2 l4_3 h).trans z)
theorem R90_0 (N : Nat) (call : CT) (y0 : AV) (h : H) : body Tryz.prog N call Tryz.f90 A90.an [y0] h = S90_0 call (fun (x_0 : OA) (x_5 : Bool) (x_6 : Int) (l2_0 l2_1 : AV) (l2_2 l2_3 : AV) (l4_0 l4_1 : AV) (l4_2 l4_3 : AV) h => (E90_1 N call) (T90_1 x_0 x_5 x_6 l2_0 l2_1 l2_2 l2_3 l4_0 l4_1 l4_2 l4_3) (L90_1 x_0 x_5 x_6 l2_0 l2_1 l2_2 l2_3 l4_0 l4_1 l4_2 l4_3) h) y0 h := by kernel_rfl
theorem Z90 (N : Nat) (call : CT) (y0 : AV) (h : H) : body Tryz.prog N call Tryz.f90 A90.an [y0] h = S90 N call y0 h := by
  have e1 : (fun (x_0 : OA) (x_5 : Bool) (x_6 : Int) (l2_0 l2_1 : AV) (l2_2 l2_3 : AV) (l4_0 l4_1 : AV) (l4_2 l4_3 : AV) h => (E90_1 N call) (T90_1 x_0 x_5 x_6 l2_0 l2_1 l2_2 l2_3 l4_0 l4_1 l4_2 l4_3) (L90_1 x_0 x_5 x_6 l2_0 l2_1 l2_2 l2_3 l4_0 l4_1 l4_2 l4_3) h) = (C90_1 N call) := by
    funext x_0 x_5 x_6 l2_0 l2_1 l2_2 l2_3 l4_0 l4_1 l4_2 l4_3 h
    exact Z90_1 N call x_0 x_5 x_6 l2_0 l2_1 l2_2 l2_3 l4_0 l4_1 l4_2 l4_3 h
  have r := R90_0 N call y0 h
  rw [e1] at r
  have z : S90_0 call (C90_1 N call) y0 h = S90 N call y0 h := by kernel_rfl
  exact r.trans z
theorem V90 (N : Nat) (call : CT) (vs : List AV) (h : H) : body Tryz.prog N call Tryz.f90 A90.an vs h = row1 (fun y0 => S90 N call y0 h) vs := wrap1 (by kernel_rfl) (fun y0 => Z90 N call y0 h) vs
/- (*sibyl/sibylref2.reader).sign -/
def A91.a0 : Ann := .items [.opL 0, .op 1]
def A91.a1 : Ann := .items [.op 0, .op 1]
def A91.a2 : Ann := .items [.op 0]
def A91.a3 : Ann := .items [.op 0, .op 1, .op 2, .op 3]
def A91.a4 : Ann := .leaf
def A91.a5 : Ann := .leaf
def A91.a6 : Ann := .two A91.a4 A91.a5
def A91.a7 : Ann := .two A91.a3 A91.a6
def A91.a8 : Ann := .items [.op 0]
def A91.a9 : Ann := .items [.op 0]
def A91.a10 : Ann := .items [.op 0, .op 1, .op 2, .op 3, .op 4, .op 5, .op 6]
def A91.a11 : Ann := .leaf
def A91.a12 : Ann := .leaf
def A91.a13 : Ann := .two A91.a11 A91.a12
def A91.a14 : Ann := .two A91.a10 A91.a13
def A91.a15 : Ann := .items [.op 0, .op 1, .split 26, .op 2, .op 3, .op 4, .op 5, .op 6, .op 7, .op 8, .op 9, .op 10, .op 11, .op 12, .op 13]
def A91.a16 : Ann := .one A91.a15
def A91.a17 : Ann := .items [.op 0, .op 1, .op 2]
def A91.a18 : Ann := .join [0, 2, 4, 5, 6, 7] [2] A91.a16 A91.a17
def A91.a19 : Ann := .two A91.a14 A91.a18
def A91.a20 : Ann := .meet [0, 2, 4, 5, 6, 7] [2] A91.a19
def A91.a21 : Ann := .one A91.a20
def A91.a22 : Ann := .two A91.a9 A91.a21
def A91.a23 : Ann := .items [.op 0]
def A91.a24 : Ann := .drawn [.op 4, .op 5, .op 0, .op 1, .op 2, .op 3, .op 6, .opL 7, .op 8]
def A91.a25 : Ann := .drawn [.op 0, .op 1, .op 2, .op 3, .op 4, .op 5, .op 6, .op 7, .op 8, .op 9, .op 10, .op 11, .op 12, .op 13]
def A91.a26 : Ann := .items [.op 0, .op 1, .op 2]
def A91.a27 : Ann := .leaf
def A91.a28 : Ann := .two A91.a26 A91.a27
def A91.a29 : Ann := .two A91.a25 A91.a28
def A91.a30 : Ann := .two A91.a24 A91.a29
def A91.a31 : Ann := .leaf
def A91.a32 : Ann := .two A91.a30 A91.a31
def A91.a33 : Ann := .two A91.a23 A91.a32
def A91.a34 : Ann := .two A91.a22 A91.a33
def A91.a35 : Ann := .two A91.a8 A91.a34
def A91.a36 : Ann := .one A91.a35
def A91.a37 : Ann := .items [.op 0, .op 1, .op 2]
def A91.a38 : Ann := .two A91.a36 A91.a37
def A91.a39 : Ann := .two A91.a7 A91.a38
def A91.a40 : Ann := .meet [0, 2, 4, 5] [2] A91.a39
def A91.a41 : Ann := .one A91.a40
def A91.a42 : Ann := .two A91.a2 A91.a41
def A91.a43 : Ann := .items [.op 0, .op 1, .op 2]
def A91.a44 : Ann := .leaf
def A91.a45 : Ann := .two A91.a43 A91.a44
def A91.a46 : Ann := .two A91.a42 A91.a45
def A91.a47 : Ann := .two A91.a1 A91.a46
def A91.an : Ann := .two A91.a0 A91.a47
def F91_1 (N : Nat) (call : CT) (self : K3) : K3 :=
  (codeK Tryz.prog N call (c1 (c1 (c2 (c1 (c2 (c2 (bodyOf Tryz.f91))))))) A91.a39 (fun T L h => self (keepT [0, 2, 4, 5] T) (keepL [2] L) h) (fun i T L h => match Nat.beq i 0 with | true => (codeK Tryz.prog N call (c2 (c2 (c2 (bodyOf Tryz.f91)))) A91.a45 (resK Tryz.prog Tryz.f91.results.toList) (fun _ _ _ _ => none) (resK Tryz.prog Tryz.f91.results.toList)) T L h | false => (fun _ _ _ _ => none) i T L h) (resK Tryz.prog Tryz.f91.results.toList))
def E91_1 (N : Nat) (call : CT) : K3 := iter (F91_1 N call) N
def F91_2 (N : Nat) (call : CT) (D1 : K3) (self : K3) : K3 :=
  (codeK Tryz.prog N call (c1 (c1 (c2 (c1 (c2 (c1 (c1 (c2 (c1 (c1 (c2 (c1 (c2 (c2 (bodyOf Tryz.f91))))))))))))))) A91.a19 (fun T L h => self (keepT [0, 2, 4, 5, 6, 7] T) (keepL [2] L) h) (fun i T L h => match Nat.beq i 2 with | true => (codeK Tryz.prog N call (c2 (c2 (c1 (c1 (c2 (c1 (c1 (c2 (c1 (c2 (c2 (bodyOf Tryz.f91)))))))))))) A91.a33 (codeK Tryz.prog N call (c2 (c2 (c1 (c1 (c2 (c1 (c2 (c2 (bodyOf Tryz.f91))))))))) A91.a37 (fun T L h => D1 (keepT [0, 2, 4, 5] T) (keepL [2] L) h) (fun i T L h => match Nat.beq i 0 with | true => (codeK Tryz.prog N call (c2 (c2 (c2 (bodyOf Tryz.f91)))) A91.a45 (resK Tryz.prog Tryz.f91.results.toList) (fun _ _ _ _ => none) (resK Tryz.prog Tryz.f91.results.toList)) T L h | false => (fun _ _ _ _ => none) i T L h) (resK Tryz.prog Tryz.f91.results.toList)) (fun i T L h => match Nat.beq i 1 with | true => (codeK Tryz.prog N call (c2 (c2 (c1 (c1 (c2 (c1 (c2 (c2 (bodyOf Tryz.f91))))))))) A91.a37 (fun T L h => D1 (keepT [0, 2, 4, 5] T) (keepL [2] L) h) (fun i T L h => match Nat.beq i 0 with | true => (codeK Tryz.prog N call (c2 (c2 (c2 (bodyOf Tryz.f91)))) A91.a45 (resK Tryz.prog Tryz.f91.results.toList) (fun _ _ _ _ => none) (resK Tryz.prog Tryz.f91.results.toList)) T L h | false => (fun _ _ _ _ => none) i T L h) (resK Tryz.prog Tryz.f91.results.toList)) T L h | false => (fun i T L h => match Nat.beq i 0 with | true => (codeK Tryz.prog N call (c2 (c2 (c2 (bodyOf Tryz.f91)))) A91.a45 (resK Tryz.prog Tryz.f91.results.toList) (fun _ _ _ _ => none) (resK Tryz.prog Tryz.f91.results.toList)) T L h | false => (fun _ _ _ _ => none) i T L h) i T L h) (resK Tryz.prog Tryz.f91.results.toList)) T L h | false => (fun i T L h => match Nat.beq i 1 with | true => (codeK Tryz.prog N call (c2 (c2 (c1 (c1 (c2 (c1 (c2 (c2 (bodyOf Tryz.f91))))))))) A91.a37 (fun T L h => D1 (keepT [0, 2, 4, 5] T) (keepL [2] L) h) (fun i T L h => match Nat.beq i 0 with | true => (codeK Tryz.prog N call (c2 (c2 (c2 (bodyOf Tryz.f91)))) A91.a45 (resK Tryz.prog Tryz.f91.results.toList) (fun _ _ _ _ => none) (resK Tryz.prog Tryz.f91.results.toList)) T L h | false => (fun _ _ _ _ => none) i T L h) (resK Tryz.prog Tryz.f91.results.toList)) T L h | false => (fun i T L h => match Nat.beq i 0 with | true => (codeK Tryz.prog N call (c2 (c2 (c2 (bodyOf Tryz.f91)))) A91.a45 (resK Tryz.prog Tryz.f91.results.toList) (fun _ _ _ _ => none) (resK Tryz.prog Tryz.f91.results.toList)) T L h | false => (fun _ _ _ _ => none) i T L h) i T L h) i T L h) (resK Tryz.prog Tryz.f91.results.toList))
def E91_2 (N : Nat) (call : CT) (D1 : K3) : K3 := iter (F91_2 N call D1) N
def E91_3 (N : Nat) (call : CT) (D1 : K3) (D2 : K3) : K3 :=
  (codeK Tryz.prog N call (c2 (c2 (c1 (c1 (c2 (c1 (c2 (c1 (c1 (c2 (c1 (c1 (c2 (c1 (c2 (c2 (bodyOf Tryz.f91))))))))))))))))) A91.a17 (fun T L h => D2 (keepT [0, 2, 4, 5, 6, 7] T) (keepL [2] L) h) (fun i T L h => match Nat.beq i 2 with | true => (codeK Tryz.prog N call (c2 (c2 (c1 (c1 (c2 (c1 (c1 (c2 (c1 (c2 (c2 (bodyOf Tryz.f91)))))))))))) A91.a33 (codeK Tryz.prog N call (c2 (c2 (c1 (c1 (c2 (c1 (c2 (c2 (bodyOf Tryz.f91))))))))) A91.a37 (fun T L h => D1 (keepT [0, 2, 4, 5] T) (keepL [2] L) h) (fun i T L h => match Nat.beq i 0 with | true => (codeK Tryz.prog N call (c2 (c2 (c2 (bodyOf Tryz.f91)))) A91.a45 (resK Tryz.prog Tryz.f91.results.toList) (fun _ _ _ _ => none) (resK Tryz.prog Tryz.f91.results.toList)) T L h | false => (fun _ _ _ _ => none) i T L h) (resK Tryz.prog Tryz.f91.results.toList)) (fun i T L h => match Nat.beq i 1 with | true => (codeK Tryz.prog N call (c2 (c2 (c1 (c1 (c2 (c1 (c2 (c2 (bodyOf Tryz.f91))))))))) A91.a37 (fun T L h => D1 (keepT [0, 2, 4, 5] T) (keepL [2] L) h) (fun i T L h => match Nat.beq i 0 with | true => (codeK Tryz.prog N call (c2 (c2 (c2 (bodyOf Tryz.f91)))) A91.a45 (resK Tryz.prog Tryz.f91.results.toList) (fun _ _ _ _ => none) (resK Tryz.prog Tryz.f91.results.toList)) T L h | false => (fun _ _ _ _ => none) i T L h) (resK Tryz.prog Tryz.f91.results.toList)) T L h | false => (fun i T L h => match Nat.beq i 0 with | true => (codeK Tryz.prog N call (c2 (c2 (c2 (bodyOf Tryz.f91)))) A91.a45 (resK Tryz.prog Tryz.f91.results.toList) (fun _ _ _ _ => none) (resK Tryz.prog Tryz.f91.results.toList)) T L h | false => (fun _ _ _ _ => none) i T L h) i T L h) (resK Tryz.prog Tryz.f91.results.toList)) T L h | false => (fun i T L h => match Nat.beq i 1 with | true => (codeK Tryz.prog N call (c2 (c2 (c1 (c1 (c2 (c1 (c2 (c2 (bodyOf Tryz.f91))))))))) A91.a37 (fun T L h => D1 (keepT [0, 2, 4, 5] T) (keepL [2] L) h) (fun i T L h => match Nat.beq i 0 with | true => (codeK Tryz.prog N call (c2 (c2 (c2 (bodyOf Tryz.f91)))) A91.a45 (resK Tryz.prog Tryz.f91.results.toList) (fun _ _ _ _ => none) (resK Tryz.prog Tryz.f91.results.toList)) T L h | false => (fun _ _ _ _ => none) i T L h) (resK Tryz.prog Tryz.f91.results.toList)) T L h | false => (fun i T L h => match Nat.beq i 0 with | true => (codeK Tryz.prog N call (c2 (c2 (c2 (bodyOf Tryz.f91)))) A91.a45 (resK Tryz.prog Tryz.f91.results.toList) (fun _ _ _ _ => none) (resK Tryz.prog Tryz.f91.results.toList)) T L h | false => (fun _ _ _ _ => none) i T L h) i T L h) i T L h) (resK Tryz.prog Tryz.f91.results.toList))
def S91_1 (call : CT) (k2 : OA → OA → Nat → Option Nat → Int → Bool → Int → AV → AV → AV → AV → H → R) (x_0 a_4 : OA) (n_4 : Nat) (c_4 : Option Nat) (x_5 : Int) (l2_0 l2_1 : AV) (l2_2 l2_3 : AV) (h : H) : R :=
  ifB (ltI x_5 (Int.ofNat n_4)) (k2 x_0 a_4 n_4 c_4 x_5 true (Int.ofNat 0) l2_0 l2_1 l2_2 l2_3 h) (some (.tuple [(.agg [(.int .i64 (Int.ofNat 0)), (.str []), (.int .i64 (Int.ofNat 0)), (.int .i64 (Int.ofNat 0))]), (.bool false)], h))
def S91_2 (call : CT) (k1 : OA → OA → Nat → Option Nat → Int → AV → AV → AV → AV → H → R) (k3 : OA → OA → Nat → Option Nat → Int → Bool → Int → AV → AV → AV → AV → H → R) (x_0 a_4 : OA) (n_4 : Nat) (c_4 : Option Nat) (x_5 : Int) (x_6 : Bool) (x_7 : Int) (l2_0 l2_1 : AV) (l2_2 l2_3 : AV) (h : H) : R :=
  idxAddr 1 a_4 n_4 x_5 (fun b1 o2 => ldK h b1 o2 1 (one (fun v3 => onStr v3 (fun s4 => ifB (ltI x_7 (Int.ofNat (s4).length)) (ifB x_6 (idxAddr 1 a_4 n_4 x_5 (fun b5 o6 => ldK h b5 o6 1 (one (fun v7 => onStr v7 (fun s8 => idxS s8 x_7 (fun b9 => bindR (call 88 [(.ptr x_0), (.int .i64 x_7), (.int .i32 (wrapF .i32 (Int.ofNat b9)))] h) (fun v10 h11 => onBool v10 (fun e12 => k3 x_0 a_4 n_4 c_4 x_5 e12 x_7 l2_0 l2_1 l2_2 l2_3 h11)))))))) (k3 x_0 a_4 n_4 c_4 x_5 false x_7 l2_0 l2_1 l2_2 l2_3 h)) (ifB x_6 (bindR (call 53 [(.ptr x_0), (.int .i64 (Int.ofNat 0))] h) (fun v13 h14 => onInt .i64 v13 (fun i15 => idxAddr 1 a_4 n_4 x_5 (fun b16 o17 => ldK h14 b16 o17 1 (one (fun v18 => ldK h b16 o17 1 (one (fun v19 => guardB (sameAV v18 v19) (onStr v18 (fun s20 => onSome x_0 (fun b21 o22 => ldK h14 b21 (o22 + 3) 1 (one (fun v23 => onInt .i64 v23 (fun i24 => idxAddr 1 a_4 n_4 x_5 (fun b25 o26 => ldK h14 b25 o26 1 (one (fun v27 => onStr v27 (fun s28 => onSome x_0 (fun b29 o30 => stK h14 b29 (o30 + 3) [(.int .i64 (wrapF .i64 (Int.add i24 (Int.ofNat (s28).length))))] (fun h31 => some (.tuple [(.agg [(.int .i64 (Int.ofNat 3)), (.str s20), (.int .i64 (Int.ofNat 0)), (.int .i64 i15)]), (.bool true)], h31))))))))))))))))))))) (k1 x_0 a_4 n_4 c_4 (wrapF .i64 (Int.add x_5 (Int.ofNat 1))) l2_0 l2_1 l2_2 l2_3 h))))))
def S91_3 (call : CT) (k2 : OA → OA → Nat → Option Nat → Int → Bool → Int → AV → AV → AV → AV → H → R) (x_0 a_4 : OA) (n_4 : Nat) (c_4 : Option Nat) (x_5 : Int) (x_6 : Bool) (x_7 : Int) (l2_0 l2_1 : AV) (l2_2 l2_3 : AV) (h : H) : R :=
  k2 x_0 a_4 n_4 c_4 x_5 x_6 (wrapF .i64 (Int.add x_7 (Int.ofNat 1))) l2_0 l2_1 l2_2 l2_3 h
def S91_0 (call : CT) (k1 : OA → OA → Nat → Option Nat → Int → AV → AV → AV → AV → H → R) (y0 : AV) (h : H) : R :=
  onPtr y0 (fun p1 => newK h [(.str [60, 61, 62]), (.str [61, 62]), (.str [60, 61]), (.str [126, 61]), (.str [61]), (.str [126]), (.str [60]), (.str [38]), (.str [124]), (.str [40]), (.str [41]), (.str [123]), (.str [125]), (.str [44]), (.str [59]), (.str [58]), (.str [43]), (.str [92])] (fun b2 h3 => k1 p1 (some (b2, 0)) 18 (some 18) (Int.ofNat 0) (.int .i64 (Int.ofNat 0)) (.str []) (.int .i64 (Int.ofNat 0)) (.int .i64 (Int.ofNat 0)) h3))
def C91_3 (N : Nat) (call : CT) (k1 : OA → OA → Nat → Option Nat → Int → AV → AV → AV → AV → H → R) (k2 : OA → OA → Nat → Option Nat → Int → Bool → Int → AV → AV → AV → AV → H → R) : OA → OA → Nat → Option Nat → Int → Bool → Int → AV → AV → AV → AV → H → R := S91_3 call k2
def B91_2 (N : Nat) (call : CT) (k1 : OA → OA → Nat → Option Nat → Int → AV → AV → AV → AV → H → R) (ih : OA → OA → Nat → Option Nat → Int → Bool → Int → AV → AV → AV → AV → H → R) : OA → OA → Nat → Option Nat → Int → Bool → Int → AV → AV → AV → AV → H → R := S91_2 call k1 (C91_3 N call k1 ih)
def I91_2 (N : Nat) (call : CT) (k1 : OA → OA → Nat → Option Nat → Int → AV → AV → AV → AV → H → R) (n : Nat) : OA → OA → Nat → Option Nat → Int → Bool → Int → AV → AV → AV → AV → H → R := Nat.rec (motive := fun _ => OA → OA → Nat → Option Nat → Int → Bool → Int → AV → AV → AV → AV → H → R) (fun _ _ _ _ _ _ _ _ _ _ _ _ => none) (fun _ ih => B91_2 N call k1 ih) n
def C91_2 (N : Nat) (call : CT) (k1 : OA → OA → Nat → Option Nat → Int → AV → AV → AV → AV → H → R) : OA → OA → Nat → Option Nat → Int → Bool → Int → AV → AV → AV → AV → H → R := I91_2 N call k1 N
def B91_1 (N : Nat) (call : CT) (ih : OA → OA → Nat → Option Nat → Int → AV → AV → AV → AV → H → R) : OA → OA → Nat → Option Nat → Int → AV → AV → AV → AV → H → R := S91_1 call (C91_2 N call ih)
def I91_1 (N : Nat) (call : CT) (n : Nat) : OA → OA → Nat → Option Nat → Int → AV → AV → AV → AV → H → R := Nat.rec (motive := fun _ => OA → OA → Nat → Option Nat → Int → AV → AV → AV → AV → H → R) (fun _ _ _ _ _ _ _ _ _ _ => none) (fun _ ih => B91_1 N call ih) n
def C91_1 (N : Nat) (call : CT) : OA → OA → Nat → Option Nat → Int → AV → AV → AV → AV → H → R := I91_1 N call N
def S91 (N : Nat) (call : CT) (y0 : AV) (h : H) : R := S91_0 call (C91_1 N call) y0 h
def T91_1 (x_0 a_4 : OA) (n_4 : Nat) (c_4 : Option Nat) (x_5 : Int) (l2_0 l2_1 : AV) (l2_2 l2_3 : AV) : LF := [(some (.v (.ptr x_0))), none, (some (.lptr 2 0)), none, (some (.v (.slice a_4 n_4 c_4))), (some (.v (.int .i64 x_5))), oo, oo, oo, oo, oo, oo, oo, oo, oo, oo, oo, oo, oo, oo, oo, oo, oo, oo, oo, oo, oo, oo, oo, oo, oo, oo, oo, oo, oo, oo, oo, oo, oo, oo, oo, oo, oo, oo, oo, oo, oo, oo, oo, oo, oo, oo, oo, oo, oo, oo, oo, oo, oo, oo, oo]
def L91_1 (x_0 a_4 : OA) (n_4 : Nat) (c_4 : Option Nat) (x_5 : Int) (l2_0 l2_1 : AV) (l2_2 l2_3 : AV) : LL := [none, none, (some (.cells [l2_0, l2_1, l2_2, l2_3])), oo, oo, oo, oo, oo, oo, oo, oo, oo, oo, oo, oo, oo, oo, oo, oo, oo, oo, oo, oo, oo, oo, oo, oo, oo, oo, oo, oo, oo, oo, oo, oo, oo, oo, oo, oo, oo, oo, oo, oo, oo, oo, oo, oo, oo, oo, oo, oo, oo, oo, oo, oo, oo, oo, oo, oo, oo, oo]
def T91_2 (x_0 a_4 : OA) (n_4 : Nat) (c_4 : Option Nat) (x_5 : Int) (x_6 : Bool) (x_7 : Int) (l2_0 l2_1 : AV) (l2_2 l2_3 : AV) : LF := [(some (.v (.ptr x_0))), none, (some (.lptr 2 0)), none, (some (.v (.slice a_4 n_4 c_4))), (some (.v (.int .i64 x_5))), (some (.v (.bool x_6))), (some (.v (.int .i64 x_7))), oo, oo, oo, oo, oo, oo, oo, oo, oo, oo, oo, oo, oo, oo, oo, oo, oo, oo, oo, oo, oo, oo, oo, oo, oo, oo, oo, oo, oo, oo, oo, oo, oo, oo, oo, oo, oo, oo, oo, oo, oo, oo, oo, oo, oo, oo, oo, oo, oo, oo, oo, oo, oo]
def L91_2 (x_0 a_4 : OA) (n_4 : Nat) (c_4 : Option Nat) (x_5 : Int) (x_6 : Bool) (x_7 : Int) (l2_0 l2_1 : AV) (l2_2 l2_3 : AV) : LL := [none, none, (some (.cells [l2_0, l2_1, l2_2, l2_3])), oo, oo, oo, oo, oo, oo, oo, oo, oo, oo, oo, oo, oo, oo, oo, oo, oo, oo, oo, oo, oo, oo, oo, oo, oo, oo, oo, oo, oo, oo, oo, oo, oo, oo, oo, oo, oo, oo, oo, oo, oo, oo, oo, oo, oo, oo, oo, oo, oo, oo, oo, oo, oo, oo, oo, oo, oo, oo]
def T91_3 (x_0 a_4 : OA) (n_4 : Nat) (c_4 : Option Nat) (x_5 : Int) (x_6 : Bool) (x_7 : Int) (l2_0 l2_1 : AV) (l2_2 l2_3 : AV) : LF := [(some (.v (.ptr x_0))), none, (some (.lptr 2 0)), none, (some (.v (.slice a_4 n_4 c_4))), (some (.v (.int .i64 x_5))), (some (.v (.bool x_6))), (some (.v (.int .i64 x_7))), oo, oo, oo, oo, oo, oo, oo, oo, oo, oo, oo, oo, oo, oo, oo, oo, oo, oo, oo, oo, oo, oo, oo, oo, oo, oo, oo, oo, oo, oo, oo, oo, oo, oo, oo, oo, oo, oo, oo, oo, oo, oo, oo, oo, oo, oo, oo, oo, oo, oo, oo, oo, oo]
def L91_3 (x_0 a_4 : OA) (n_4 : Nat) (c_4 : Option Nat) (x_5 : Int) (x_6 : Bool) (x_7 : Int) (l2_0 l2_1 : AV) (l2_2 l2_3 : AV) : LL := [none, none, (some (.cells [l2_0, l2_1, l2_2, l2_3])), oo, oo, oo, oo, oo, oo, oo, oo, oo, oo, oo, oo, oo, oo, oo, oo, oo, oo, oo, oo, oo, oo, oo, oo, oo, oo, oo, oo, oo, oo, oo, oo, oo, oo, oo, oo, oo, oo, oo, oo, oo, oo, oo, oo, oo, oo, oo, oo, oo, oo, oo, oo, oo, oo, oo, oo, oo, oo]
theorem R91_3 (N : Nat) (call : CT) (D1 : K3) (D2 : K3) (x_0 a_4 : OA) (n_4 : Nat) (c_4 : Option Nat) (x_5 : Int) (x_6 : Bool) (x_7 : Int) (l2_0 l2_1 : AV) (l2_2 l2_3 : AV) (h : H) : E91_3 N call D1 D2 (T91_3 x_0 a_4 n_4 c_4 x_5 x_6 x_7 l2_0 l2_1 l2_2 l2_3) (L91_3 x_0 a_4 n_4 c_4 x_5 x_6 x_7 l2_0 l2_1 l2_2 l2_3) h = S91_3 call (fun (x_0 a_4 : OA) (n_4 : Nat) (c_4 : Option Nat) (x_5 : Int) (x_6 : Bool) (x_7 : Int) (l2_0 l2_1 : AV) (l2_2 l2_3 : AV) h => D2 (T91_2 x_0 a_4 n_4 c_4 x_5 x_6 x_7 l2_0 l2_1 l2_2 l2_3) (L91_2 x_0 a_4 n_4 c_4 x_5 x_6 x_7 l2_0 l2_1 l2_2 l2_3) h) x_0 a_4 n_4 c_4 x_5 x_6 x_7 l2_0 l2_1 l2_2 l2_3 h := by kernel_rfl
theorem Z91_3 (N : Nat) (call : CT) (D1 : K3) (D2 : K3) (x_0 a_4 : OA) (n_4 : Nat) (c_4 : Option Nat) (x_5 : Int) (x_6 : Bool) (x_7 : Int) (l2_0 l2_1 : AV) (l2_2 l2_3 : AV) (h : H) : E91_3 N call D1 D2 (T91_3 x_0 a_4 n_4 c_4 x_5 x_6 x_7 l2_0 l2_1 l2_2 l2_3) (L91_3 x_0 a_4 n_4 c_4 x_5 x_6 x_7 l2_0 l2_1 l2_2 l2_3) h = C91_3 N call (fun (x_0 a_4 : OA) (n_4 : Nat) (c_4 : Option Nat) (x_5 : Int) (l2_0 l2_1 : AV) (l2_2 l2_3 : AV) h => D1 (T91_1 x_0 a_4 n_4 c_4 x_5 l2_0 l2_1 l2_2 l2_3) (L91_1 x_0 a_4 n_4 c_4 x_5 l2_0 l2_1 l2_2 l2_3) h) (fun (x_0 a_4 : OA) (n_4 : Nat) (c_4 : Option Nat) (x_5 : Int) (x_6 : Bool) (x_7 : Int) (l2_0 l2_1 : AV) (l2_2 l2_3 : AV) h => D2 (T91_2 x_0 a_4 n_4 c_4 x_5 x_6 x_7 l2_0 l2_1 l2_2 l2_3) (L91_2 x_0 a_4 n_4 c_4 x_5 x_6 x_7 l2_0 l2_1 l2_2 l2_3) h) x_0 a_4 n_4 c_4 x_5 x_6 x_7 l2_0 l2_1 l2_2 l2_3 h := by
  have r := R91_3 N call D1 D2 x_0 a_4 n_4 c_4 x_5 x_6 x_7 l2_0 l2_1 l2_2 l2_3 h
  have z : S91_3 call (fun (x_0 a_4 : OA) (n_4 : Nat) (c_4 : Option Nat) (x_5 : Int) (x_6 : Bool) (x_7 : Int) (l2_0 l2_1 : AV) (l2_2 l2_3 : AV) h => D2 (T91_2 x_0 a_4 n_4 c_4 x_5 x_6 x_7 l2_0 l2_1 l2_2 l2_3) (L91_2 x_0 a_4 n_4 c_4 x_5 x_6 x_7 l2_0 l2_1 l2_2 l2_3) h) x_0 a_4 n_4 c_4 x_5 x_6 x_7 l2_0 l2_1 l2_2 l2_3 h = C91_3 N call (fun (x_0 a_4 : OA) (n_4 : Nat) (c_4 : Option Nat) (x_5 : Int) (l2_0 l2_1 : AV) (l2_2 l2_3 : AV) h => D1 (T91_1 x_0 a_4 n_4 c_4 x_5 l2_0 l2_1 l2_2 l2_3) (L91_1 x_0 a_4 n_4 c_4 x_5 l2_0 l2_1 l2_2 l2_3) h) (fun (x_0 a_4 : OA) (n_4 : Nat) (c_4 : Option Nat) (x_5 : Int) (x_6 : Bool) (x_7 : Int) (l2_0 l2_1 : AV) (l2_2 l2_3 : AV) h => D2 (T91_2 x_0 a_4 n_4 c_4 x_5 x_6 x_7 l2_0 l2_1 l2_2 l2_3) (L91_2 x_0 a_4 n_4 c_4 x_5 x_6 x_7 l2_0 l2_1 l2_2 l2_3) h) x_0 a_4 n_4 c_4 x_5 x_6 x_7 l2_0 l2_1 l2_2 l2_3 h := by kernel_rfl
  exact r.trans z
theorem R91_2 (N : Nat) (call : CT) (D1 : K3) (self : K3) (x_0 a_4 : OA) (n_4 : Nat) (c_4 : Option Nat) (x_5 : Int) (x_6 : Bool) (x_7 : Int) (l2_0 l2_1 : AV) (l2_2 l2_3 : AV) (h : H) : F91_2 N call D1 self (T91_2 x_0 a_4 n_4 c_4 x_5 x_6 x_7 l2_0 l2_1 l2_2 l2_3) (L91_2 x_0 a_4 n_4 c_4 x_5 x_6 x_7 l2_0 l2_1 l2_2 l2_3) h = S91_2 call (fun (x_0 a_4 : OA) (n_4 : Nat) (c_4 : Option Nat) (x_5 : Int) (l2_0 l2_1 : AV) (l2_2 l2_3 : AV) h => D1 (T91_1 x_0 a_4 n_4 c_4 x_5 l2_0 l2_1 l2_2 l2_3) (L91_1 x_0 a_4 n_4 c_4 x_5 l2_0 l2_1 l2_2 l2_3) h) (fun (x_0 a_4 : OA) (n_4 : Nat) (c_4 : Option Nat) (x_5 : Int) (x_6 : Bool) (x_7 : Int) (l2_0 l2_1 : AV) (l2_2 l2_3 : AV) h => (E91_3 N call D1 self) (T91_3 x_0 a_4 n_4 c_4 x_5 x_6 x_7 l2_0 l2_1 l2_2 l2_3) (L91_3 x_0 a_4 n_4 c_4 x_5 x_6 x_7 l2_0 l2_1 l2_2 l2_3) h) x_0 a_4 n_4 c_4 x_5 x_6 x_7 l2_0 l2_1 l2_2 l2_3 h := by kernel_rfl
theorem Q91_2 (N : Nat) (call : CT) (D1 : K3) (n : Nat) : ∀ (x_0 a_4 : OA) (n_4 : Nat) (c_4 : Option Nat) (x_5 : Int) (x_6 : Bool) (x_7 : Int) (l2_0 l2_1 : AV) (l2_2 l2_3 : AV) (h : H), (iter (F91_2 N call D1) n) (T91_2 x_0 a_4 n_4 c_4 x_5 x_6 x_7 l2_0 l2_1 l2_2 l2_3) (L91_2 x_0 a_4 n_4 c_4 x_5 x_6 x_7 l2_0 l2_1 l2_2 l2_3) h = I91_2 N call (fun (x_0 a_4 : OA) (n_4 : Nat) (c_4 : Option Nat) (x_5 : Int) (l2_0 l2_1 : AV) (l2_2 l2_3 : AV) h => D1 (T91_1 x_0 a_4 n_4 c_4 x_5 l2_0 l2_1 l2_2 l2_3) (L91_1 x_0 a_4 n_4 c_4 x_5 l2_0 l2_1 l2_2 l2_3) h) n x_0 a_4 n_4 c_4 x_5 x_6 x_7 l2_0 l2_1 l2_2 l2_3 h := by
  induction n with
  | zero => intros; exact (iter_zero _ _ _ _).trans (by kernel_rfl)
  | succ n ih =>
    intro x_0 a_4 n_4 c_4 x_5 x_6 x_7 l2_0 l2_1 l2_2 l2_3 h
    have e0 : (fun (x_0 a_4 : OA) (n_4 : Nat) (c_4 : Option Nat) (x_5 : Int) (x_6 : Bool) (x_7 : Int) (l2_0 l2_1 : AV) (l2_2 l2_3 : AV) h => (iter (F91_2 N call D1) n) (T91_2 x_0 a_4 n_4 c_4 x_5 x_6 x_7 l2_0 l2_1 l2_2 l2_3) (L91_2 x_0 a_4 n_4 c_4 x_5 x_6 x_7 l2_0 l2_1 l2_2 l2_3) h) = (I91_2 N call (fun (x_0 a_4 : OA) (n_4 : Nat) (c_4 : Option Nat) (x_5 : Int) (l2_0 l2_1 : AV) (l2_2 l2_3 : AV) h => D1 (T91_1 x_0 a_4 n_4 c_4 x_5 l2_0 l2_1 l2_2 l2_3) (L91_1 x_0 a_4 n_4 c_4 x_5 l2_0 l2_1 l2_2 l2_3) h) n) := by funext x_0 a_4 n_4 c_4 x_5 x_6 x_7 l2_0 l2_1 l2_2 l2_3 h; exact ih x_0 a_4 n_4 c_4 x_5 x_6 x_7 l2_0 l2_1 l2_2 l2_3 h
    have e3 : (fun (x_0 a_4 : OA) (n_4 : Nat) (c_4 : Option Nat) (x_5 : Int) (x_6 : Bool) (x_7 : Int) (l2_0 l2_1 : AV) (l2_2 l2_3 : AV) h => (E91_3 N call D1 (iter (F91_2 N call D1) n)) (T91_3 x_0 a_4 n_4 c_4 x_5 x_6 x_7 l2_0 l2_1 l2_2 l2_3) (L91_3 x_0 a_4 n_4 c_4 x_5 x_6 x_7 l2_0 l2_1 l2_2 l2_3) h) = (C91_3 N call (fun (x_0 a_4 : OA) (n_4 : Nat) (c_4 : Option Nat) (x_5 : Int) (l2_0 l2_1 : AV) (l2_2 l2_3 : AV) h => D1 (T91_1 x_0 a_4 n_4 c_4 x_5 l2_0 l2_1 l2_2 l2_3) (L91_1 x_0 a_4 n_4 c_4 x_5 l2_0 l2_1 l2_2 l2_3) h) (I91_2 N call (fun (x_0 a_4 : OA) (n_4 : Nat) (c_4 : Option Nat) (x_5 : Int) (l2_0 l2_1 : AV) (l2_2 l2_3 : AV) h => D1 (T91_1 x_0 a_4 n_4 c_4 x_5 l2_0 l2_1 l2_2 l2_3) (L91_1 x_0 a_4 n_4 c_4 x_5 l2_0 l2_1 l2_2 l2_3) h) n)) := by
      funext x_0 a_4 n_4 c_4 x_5 x_6 x_7 l2_0 l2_1 l2_2 l2_3 h
      have q := Z91_3 N call D1 (iter (F91_2 N call D1) n) x_0 a_4 n_4 c_4 x_5 x_6 x_7 l2_0 l2_1 l2_2 l2_3 h
      rw [e0] at q
      exact q
    have r := R91_2 N call D1 (iter (F91_2 N call D1) n) x_0 a_4 n_4 c_4 x_5 x_6 x_7 l2_0 l2_1 l2_2 l2_3 h
    rw [e3] at r
    have g := iter_succ (F91_2 N call D1) n (T91_2 x_0 a_4 n_4 c_4 x_5 x_6 x_7 l2_0 l2_1 l2_2 l2_3) (L91_2 x_0 a_4 n_4 c_4 x_5 x_6 x_7 l2_0 l2_1 l2_2 l2_3) h
    have z : S91_2 call (fun (x_0 a_4 : OA) (n_4 : Nat) (c_4 : Option Nat) (x_5 : Int) (l2_0 l2_1 : AV) (l2_2 l2_3 : AV) h => D1 (T91_1 x_0 a_4 n_4 c_4 x_5 l2_0 l2_1 l2_2 l2_3) (L91_1 x_0 a_4 n_4 c_4 x_5 l2_0 l2_1 l2_2 l2_3) h) (C91_3 N call (fun (x_0 a_4 : OA) (n_4 : Nat) (c_4 : Option Nat) (x_5 : Int) (l2_0 l2_1 : AV) (l2_2 l2_3 : AV) h => D1 (T91_1 x_0 a_4 n_4 c_4 x_5 l2_0 l2_1 l2_2 l2_3) (L91_1 x_0 a_4 n_4 c_4 x_5 l2_0 l2_1 l2_2 l2_3) h) (I91_2 N call (fun (x_0 a_4 : OA) (n_4 : Nat) (c_4 : Option Nat) (x_5 : Int) (l2_0 l2_1 : AV) (l2_2 l2_3 : AV) h => D1 (T91_1 x_0 a_4 n_4 c_4 x_5 l2_0 l2_1 l2_2 l2_3) (L91_1 x_0 a_4 n_4 c_4 x_5 l2_0 l2_1 l2_2 l2_3) h) n)) x_0 a_4 n_4 c_4 x_5 x_6 x_7 l2_0 l2_1 l2_2 l2_3 h = I91_2 N call (fun (x_0 a_4 : OA) (n_4 : Nat) (c_4 : Option Nat) (x_5 : Int) (l2_0 l2_1 : AV) (l2_2 l2_3 : AV) h => D1 (T91_1 x_0 a_4 n_4 c_4 x_5 l2_0 l2_1 l2_2 l2_3) (L91_1 x_0 a_4 n_4 c_4 x_5 l2_0 l2_1 l2_2 l2_3) h) (n + 1) x_0 a_4 n_4 c_4 x_5 x_6 x_7 l2_0 l2_1 l2_2 l2_3 h := by kernel_rfl
    exact g.trans (r.trans z)
theorem Z91_2 (N : Nat) (call : CT) (D1 : K3) (x_0 a_4 : OA) (n_4 : Nat) (c_4 : Option Nat) (x_5 : Int) (x_6 : Bool) (x_7 : Int) (l2_0 l2_1 : AV) (l2_2 l2_3 : AV) (h : H) : (E91_2 N call D1) (T91_2 x_0 a_4 n_4 c_4 x_5 x_6 x_7 l2_0 l2_1 l2_2 l2_3) (L91_2 x_0 a_4 n_4 c_4 x_5 x_6 x_7 l2_0 l2_1 l2_2 l2_3) h = C91_2 N call (fun (x_0 a_4 : OA) (n_4 : Nat) (c_4 : Option Nat) (x_5 : Int) (l2_0 l2_1 : AV) (l2_2 l2_3 : AV) h => D1 (T91_1 x_0 a_4 n_4 c_4 x_5 l2_0 l2_1 l2_2 l2_3) (L91_1 x_0 a_4 n_4 c_4 x_5 l2_0 l2_1 l2_2 l2_3) h) x_0 a_4 n_4 c_4 x_5 x_6 x_7 l2_0 l2_1 l2_2 l2_3 h := by
  have g : (E91_2 N call D1) (T91_2 x_0 a_4 n_4 c_4 x_5 x_6 x_7 l2_0 l2_1 l2_2 l2_3) (L91_2 x_0 a_4 n_4 c_4 x_5 x_6 x_7 l2_0 l2_1 l2_2 l2_3) h = iter (F91_2 N call D1) N (T91_2 x_0 a_4 n_4 c_4 x_5 x_6 x_7 l2_0 l2_1 l2_2 l2_3) (L91_2 x_0 a_4 n_4 c_4 x_5 x_6 x_7 l2_0 l2_1 l2_2 l2_3) h := by kernel_rfl
  have z : I91_2 N call (fun (x_0 a_4 : OA) (n_4 : Nat) (c_4 : Option Nat) (x_5 : Int) (l2_0 l2_1 : AV) (l2_2 l2_3 : AV) h => D1 (T91_1 x_0 a_4 n_4 c_4 x_5 l2_0 l2_1 l2_2 l2_3) (L91_1 x_0 a_4 n_4 c_4 x_5 l2_0 l2_1 l2_2 l2_3) h) N x_0 a_4 n_4 c_4 x_5 x_6 x_7 l2_0 l2_1 l2_2 l2_3 h = C91_2 N call (fun (x_0 a_4 : OA) (n_4 : Nat) (c_4 : Option Nat) (x_5 : Int) (l2_0 l2_1 : AV) (l2_2 l2_3 : AV) h => D1 (T91_1 x_0 a_4 n_4 c_4 x_5 l2_0 l2_1 l2_2 l2_3) (L91_1 x_0 a_4 n_4 c_4 x_5 l2_0 l2_1 l2_2 l2_3) h) x_0 a_4 n_4 c_4 x_5 x_6 x_7 l2_0 l2_1 l2_2 l2_3 h := by kernel_rfl
  exact g.trans ((Q91_2 N call D1 N x_0 a_4 n_4 c_4 x_5 x_6 x_7 l2_0 l2_1 l2_2 l2_3 h).trans z)
theorem R91_1 (N : Nat) (call : CT) (self : K3) (x_0 a_4 : OA) (n_4 : Nat) (c_4 : Option Nat) (x_5 : Int) (l2_0 l2_1 : AV) (l2_2 l2_3 : AV) (h : H) : F91_1 N call self (T91_1 x_0 a_4 n_4 c_4 x_5 l2_0 l2_1 l2_2 l2_3) (L91_1 x_0 a_4 n_4 c_4 x_5 l2_0 l2_1 l2_2 l2_3) h = S91_1 call (fun (x_0 a_4 : OA) (n_4 : Nat) (c_4 : Option Nat) (x_5 : Int) (x_6 : Bool) (x_7 : Int) (l2_0 l2_1 : AV) (l2_2 l2_3 : AV) h => (E91_2 N call self) (T91_2 x_0 a_4 n_4 c_4 x_5 x_6 x_7 l2_0 l2_1 l2_2 l2_3) (L91_2 x_0 a_4 n_4 c_4 x_5 x_6 x_7 l2_0 l2_1 l2_2 l2_3) h) x_0 a_4 n_4 c_4 x_5 l2_0 l2_1 l2_2 l2_3 h := by kernel_rfl
theorem Q91_1 (N : Nat) (call : CT) (n : Nat) : ∀ (x_0 a_4 : OA) (n_4 : Nat) (c_4 : Option Nat) (x_5 : Int) (l2_0 l2_1 : AV) (l2_2 l2_3 : AV) (h : H), (iter (F91_1 N call) n) (T91_1 x_0 a_4 n_4 c_4 x_5 l2_0 l2_1 l2_2 l2_3) (L91_1 x_0 a_4 n_4 c_4 x_5 l2_0 l2_1 l2_2 l2_3) h = I91_1 N call n x_0 a_4 n_4 c_4 x_5 l2_0 l2_1 l2_2 l2_3 h := by
  induction n with
  | zero => intros; exact (iter_zero _ _ _ _).trans (by kernel_rfl)
  | succ n ih =>
    intro x_0 a_4 n_4 c_4 x_5 l2_0 l2_1 l2_2 l2_3 h
    have e0 : (fun (x_0 a_4 : OA) (n_4 : Nat) (c_4 : Option Nat) (x_5 : Int) (l2_0 l2_1 : AV) (l2_2 l2_3 : AV) h => (iter (F91_1 N call) n) (T91_1 x_0 a_4 n_4 c_4 x_5 l2_0 l2_1 l2_2 l2_3) (L91_1 x_0 a_4 n_4 c_4 x_5 l2_0 l2_1 l2_2 l2_3) h) = (I91_1 N call n) := by funext x_0 a_4 n_4 c_4 x_5 l2_0 l2_1 l2_2 l2_3 h; exact ih x_0 a_4 n_4 c_4 x_5 l2_0 l2_1 l2_2 l2_3 h
    have e2 : (fun (x_0 a_4 : OA) (n_4 : Nat) (c_4 : Option Nat) (x_5 : Int) (x_6 : Bool) (x_7 : Int) (l2_0 l2_1 : AV) (l2_2 l2_3 : AV) h => (E91_2 N call (iter (F91_1 N call) n)) (T91_2 x_0 a_4 n_4 c_4 x_5 x_6 x_7 l2_0 l2_1 l2_2 l2_3) (L91_2 x_0 a_4 n_4 c_4 x_5 x_6 x_7 l2_0 l2_1 l2_2 l2_3) h) = (C91_2 N call (I91_1 N call n)) := by
      funext x_0 a_4 n_4 c_4 x_5 x_6 x_7 l2_0 l2_1 l2_2 l2_3 h
      have q := Z91_2 N call (iter (F91_1 N call) n) x_0 a_4 n_4 c_4 x_5 x_6 x_7 l2_0 l2_1 l2_2 l2_3 h
      rw [e0] at q
      exact q
    have r := R91_1 N call (iter (F91_1 N call) n) x_0 a_4 n_4 c_4 x_5 l2_0 l2_1 l2_2 l2_3 h
    rw [e2] at r
    have g := iter_succ (F91_1 N call) n (T91_1 x_0 a_4 n_4 c_4 x_5 l2_0 l2_1 l2_2 l2_3) (L91_1 x_0 a_4 n_4 c_4 x_5 l2_0 l2_1 l2_2 l2_3) h
    have z : S91_1 call (C91_2 N call (I91_1 N call n)) x_0 a_4 n_4 c_4 x_5 l2_0 l2_1 l2_2 l2_3 h = I91_1 N call (n + 1) x_0 a_4 n_4 c_4 x_5 l2_0 l2_1 l2_2 l2_3 h := by kernel_rfl
    exact g.trans (r.trans z)
theorem Z91_1 (N : Nat) (call : CT) (x_0 a_4 : OA) (n_4 : Nat) (c_4 : Option Nat) (x_5 : Int) (l2_0 l2_1 : AV) (l2_2 l2_3 : AV) (h : H) : (E91_1 N call) (T91_1 x_0 a_4 n_4 c_4 x_5 l2_0 l2_1 l2_2 l2_3) (L91_1 x_0 a_4 n_4 c_4 x_5 l2_0 l2_1 l2_2 l2_3) h = C91_1 N call x_0 a_4 n_4 c_4 x_5 l2_0 l2_1 l2_2 l2_3 h := by
  have g : (E91_1 N call) (T91_1 x_0 a_4 n_4 c_4 x_5 l2_0 l2_1 l2_2 l2_3) (L91_1 x_0 a_4 n_4 c_4 x_5 l2_0 l2_1 l2_2 l2_3) h = iter (F91_1 N call) N (T91_1 x_0 a_4 n_4 c_4 x_5 l2_0 l2_1 l2_2 l2_3) (L91_1 x_0 a_4 n_4 c_4 x_5 l2_0 l2_1 l2_2 l2_3) h := by kernel_rfl
  have z : I91_1 N call N x_0 a_4 n_4 c_4 x_5 l2_0 l2_1 l2_2 l2_3 h = C91_1 N call x_0 a_4 n_4 c_4 x_5 l2_0 l2_1 l2_2 l2_3 h := by kernel_rfl
  exact g.trans ((Q91_1 N call N x_0 a_4 n_4 c_4 x_5 l2_0 l2_1 l2_2 l2_3 h).trans z)
theorem R91_0 (N : Nat) (call : CT) (y0 : AV) (h : H) : body Tryz.prog N call Tryz.f91 A91.an [y0] h = S91_0 call (fun (x_0 a_4 : OA) (n_4 : Nat) (c_4 : Option Nat) (x_5 : Int) (l2_0 l2_1 : AV) (l2_2 l2_3 : AV) h => (E91_1 N call) (T91_1 x_0 a_4 n_4 c_4 x_5 l2_0 l2_1 l2_2 l2_3) (L91_1 x_0 a_4 n_4 c_4 x_5 l2_0 l2_1 l2_2 l2_3) h) y0 h := by kernel_rfl
theorem Z91 (N : Nat) (call : CT) (y0 : AV) (h : H) : body Tryz.prog N call Tryz.f91 A91.an [y0] h = S91 N call y0 h := by
  have e1 : (fun (x_0 a_4 : OA) (n_4 : Nat) (c_4 : Option Nat) (x_5 : Int) (l2_0 l2_1 : AV) (l2_2 l2_3 : AV) h => (E91_1 N call) (T91_1 x_0 a_4 n_4 c_4 x_5 l2_0 l2_1 l2_2 l2_3) (L91_1 x_0 a_4 n_4 c_4 x_5 l2_0 l2_1 l2_2 l2_3) h) = (C91_1 N call) := by
    funext x_0 a_4 n_4 c_4 x_5 l2_0 l2_1 l2_2 l2_3 h
    exact Z91_1 N call x_0 a_4 n_4 c_4 x_5 l2_0 l2_1 l2_2 l2_3 h
  have r := R91_0 N call y0 h
  rw [e1] at r
  have z : S91_0 call (C91_1 N call) y0 h = S91 N call y0 h := by kernel_rfl
  exact r.trans z
theorem V91 (N : Nat) (call : CT) (vs : List AV) (h : H) : body Tryz.prog N call Tryz.f91 A91.an vs h = row1 (fun y0 => S91 N call y0 h) vs := wrap1 (by kernel_rfl) (fun y0 => Z91 N call y0 h) vs
/- (*sibyl/sibylref4.parser).or -/
def A92.a0 : Ann := .items [.opL 0]
def A92.a1 : Ann := .items [.op 0, .op 1, .op 2, .opL 3, .op 4]
def A92.a2 : Ann := .items [.op 0, .op 1]
def A92.a3 : Ann := .leaf
def A92.a4 : Ann := .leaf
def A92.a5 : Ann := .two A92.a3 A92.a4
def A92.a6 : Ann := .two A92.a2 A92.a5
def A92.a7 : Ann := .items [.op 0, .op 1, .opL 2, .op 3]
def A92.a8 : Ann := .drawn [.op 3, .op 4, .op 5, .op 2, .op 6, .op 0, .op 1, .op 7, .op 8]
def A92.a9 : Ann := .two A92.a7 A92.a8
def A92.a10 : Ann := .one A92.a9
def A92.a11 : Ann := .two A92.a6 A92.a10
def A92.a12 : Ann := .meet [0, 1, 4, 5] [4, 5] A92.a11
def A92.a13 : Ann := .one A92.a12
def A92.a14 : Ann := .items [.op 0, .op 1]
def A92.a15 : Ann := .leaf
def A92.a16 : Ann := .two A92.a14 A92.a15
def A92.a17 : Ann := .two A92.a13 A92.a16
def A92.a18 : Ann := .two A92.a1 A92.a17
def A92.an : Ann := .two A92.a0 A92.a18
def F92_1 (N : Nat) (call : CT) (self : K3) : K3 :=
  (codeK Tryz.prog N call (c1 (c1 (c1 (c2 (c2 (bodyOf Tryz.f92)))))) A92.a11 (fun T L h => self (keepT [0, 1, 4, 5] T) (keepL [4, 5] L) h) (fun i T L h => match Nat.beq i 0 with | true => (codeK Tryz.prog N call (c2 (c2 (c2 (bodyOf Tryz.f92)))) A92.a16 (resK Tryz.prog Tryz.f92.results.toList) (fun _ _ _ _ => none) (resK Tryz.prog Tryz.f92.results.toList)) T L h | false => (fun _ _ _ _ => none) i T L h) (resK Tryz.prog Tryz.f92.results.toList))
def E92_1 (N : Nat) (call : CT) : K3 := iter (F92_1 N call) N
def S92_1 (call : CT) (k1 : OA → Int → AV → AV → AV → AV → AV → AV → AV → AV → AV → AV → H → R) (x_0 : OA) (x_1 : Int) (l4_0 l4_1 : AV) (l4_2 l4_3 : AV) (l4_4 l5_0 : AV) (l5_1 l5_2 : AV) (l5_3 l5_4 : AV) (h : H) : R :=
  bindR (call 28 [(.ptr x_0), (.str [124])] h) (fun v1 h2 => onBool v1 (fun e3 => ifB e3 (bindR (call 55 [(.ptr x_0)] h2) (fun v4 h5 => onAgR v4 (fun l10 => row4 (fun x6 x7 x8 x9 => bindR (call 111 [(.ptr x_0), (.int .i64 x_1)] h5) (fun v11 h12 => onAgR v11 (fun l18 => row5 (fun x13 x14 x15 x16 x17 => guardB (sameAV (.agg [l5_0, l5_1, l5_2, l5_3, l5_4]) (.agg [l5_0, l5_1, l5_2, l5_3, l5_4])) (newK h12 [l5_0, l5_1, l5_2, l5_3, l5_4, x13, x14, x15, x16, x17] (fun b19 h20 => guardB (sameAV x9 x9) (guardB (sameAV x9 x9) (onInt .i64 x9 (fun i21 => k1 x_0 x_1 l4_0 l4_1 l4_2 l4_3 l4_4 (.str [111, 114]) (.str []) (.int .i64 (Int.ofNat 0)) (.int .i64 i21) (.slice (some (b19, 0)) 2 (some 2)) h20)))))) l18))) l10))) (some ((.agg [l5_0, l5_1, l5_2, l5_3, l5_4]), h2))))
def S92_0 (call : CT) (k1 : OA → Int → AV → AV → AV → AV → AV → AV → AV → AV → AV → AV → H → R) (y0 y1 : AV) (h : H) : R :=
  onPtr y0 (fun p1 => onInt .i64 y1 (fun i2 => bindR (call 111 [(.ptr p1), (.int .i64 i2)] h) (fun v3 h4 => onAgR v3 (fun l10 => row5 (fun x5 x6 x7 x8 x9 => k1 p1 i2 (.str []) (.str []) (.int .i64 (Int.ofNat 0)) (.int .i64 (Int.ofNat 0)) (.slice none 0 (some 0)) x5 x6 x7 x8 x9 h4) l10))))
def B92_1 (N : Nat) (call : CT) (ih : OA → Int → AV → AV → AV → AV → AV → AV → AV → AV → AV → AV → H → R) : OA → Int → AV → AV → AV → AV → AV → AV → AV → AV → AV → AV → H → R := S92_1 call ih
def I92_1 (N : Nat) (call : CT) (n : Nat) : OA → Int → AV → AV → AV → AV → AV → AV → AV → AV → AV → AV → H → R := Nat.rec (motive := fun _ => OA → Int → AV → AV → AV → AV → AV → AV → AV → AV → AV → AV → H → R) (fun _ _ _ _ _ _ _ _ _ _ _ _ _ => none) (fun _ ih => B92_1 N call ih) n
def C92_1 (N : Nat) (call : CT) : OA → Int → AV → AV → AV → AV → AV → AV → AV → AV → AV → AV → H → R := I92_1 N call N
def S92 (N : Nat) (call : CT) (y0 y1 : AV) (h : H) : R := S92_0 call (C92_1 N call) y0 y1 h
def T92_1 (x_0 : OA) (x_1 : Int) (l4_0 l4_1 : AV) (l4_2 l4_3 : AV) (l4_4 l5_0 : AV) (l5_1 l5_2 : AV) (l5_3 l5_4 : AV) : LF := [(some (.v (.ptr x_0))), (some (.v (.int .i64 x_1))), none, none, (some (.lptr 4 0)), (some (.lptr 5 0)), oo, oo, oo, oo, oo, oo, oo, oo, oo, oo, oo, oo, oo, oo, oo, oo, oo]
def L92_1 (x_0 : OA) (x_1 : Int) (l4_0 l4_1 : AV) (l4_2 l4_3 : AV) (l4_4 l5_0 : AV) (l5_1 l5_2 : AV) (l5_3 l5_4 : AV) : LL := [oo, oo, oo, oo, (some (.cells [l4_0, l4_1, l4_2, l4_3, l4_4])), (some (.cells [l5_0, l5_1, l5_2, l5_3, l5_4])), oo, oo, oo, oo, oo, oo, oo, oo, oo, oo, oo, oo, oo, oo, oo, oo, oo]
theorem R92_1 (N : Nat) (call : CT) (self : K3) (x_0 : OA) (x_1 : Int) (l4_0 l4_1 : AV) (l4_2 l4_3 : AV) (l4_4 l5_0 : AV) (l5_1 l5_2 : AV) (l5_3 l5_4 : AV) (h : H) : F92_1 N call self (T92_1 x_0 x_1 l4_0 l4_1 l4_2 l4_3 l4_4 l5_0 l5_1 l5_2 l5_3 l5_4) (L92_1 x_0 x_1 l4_0 l4_1 l4_2 l4_3 l4_4 l5_0 l5_1 l5_2 l5_3 l5_4) h = S92_1 call (fun (x_0 : OA) (x_1 : Int) (l4_0 l4_1 : AV) (l4_2 l4_3 : AV) (l4_4 l5_0 : AV) (l5_1 l5_2 : AV) (l5_3 l5_4 : AV) h => self (T92_1 x_0 x_1 l4_0 l4_1 l4_2 l4_3 l4_4 l5_0 l5_1 l5_2 l5_3 l5_4) (L92_1 x_0 x_1 l4_0 l4_1 l4_2 l4_3 l4_4 l5_0 l5_1 l5_2 l5_3 l5_4) h) x_0 x_1 l4_0 l4_1 l4_2 l4_3 l4_4 l5_0 l5_1 l5_2 l5_3 l5_4 h := by kernel_rfl
theorem Q92_1 (N : Nat) (call : CT) (n : Nat) : ∀ (x_0 : OA) (x_1 : Int) (l4_0 l4_1 : AV) (l4_2 l4_3 : AV) (l4_4 l5_0 : AV) (l5_1 l5_2 : AV) (l5_3 l5_4 : AV) (h : H), (iter (F92_1 N call) n) (T92_1 x_0 x_1 l4_0 l4_1 l4_2 l4_3 l4_4 l5_0 l5_1 l5_2 l5_3 l5_4) (L92_1 x_0 x_1 l4_0 l4_1 l4_2 l4_3 l4_4 l5_0 l5_1 l5_2 l5_3 l5_4) h = I92_1 N call n x_0 x_1 l4_0 l4_1 l4_2 l4_3 l4_4 l5_0 l5_1 l5_2 l5_3 l5_4 h := by
  induction n with
  | zero => intros; exact (iter_zero _ _ _ _).trans (by kernel_rfl)
  | succ n ih =>
    intro x_0 x_1 l4_0 l4_1 l4_2 l4_3 l4_4 l5_0 l5_1 l5_2 l5_3 l5_4 h
    have e0 : (fun (x_0 : OA) (x_1 : Int) (l4_0 l4_1 : AV) (l4_2 l4_3 : AV) (l4_4 l5_0 : AV) (l5_1 l5_2 : AV) (l5_3 l5_4 : AV) h => (iter (F92_1 N call) n) (T92_1 x_0 x_1 l4_0 l4_1 l4_2 l4_3 l4_4 l5_0 l5_1 l5_2 l5_3 l5_4) (L92_1 x_0 x_1 l4_0 l4_1 l4_2 l4_3 l4_4 l5_0 l5_1 l5_2 l5_3 l5_4) h) = (I92_1 N call n) := by funext x_0 x_1 l4_0 l4_1 l4_2 l4_3 l4_4 l5_0 l5_1 l5_2 l5_3 l5_4 h; exact ih x_0 x_1 l4_0 l4_1 l4_2 l4_3 l4_4 l5_0 l5_1 l5_2 l5_3 l5_4 h
    have r := R92_1 N call (iter (F92_1 N call) n) x_0 x_1 l4_0 l4_1 l4_2 l4_3 l4_4 l5_0 l5_1 l5_2 l5_3 l5_4 h
    rw [e0] at r
    have g := iter_succ (F92_1 N call) n (T92_1 x_0 x_1 l4_0 l4_1 l4_2 l4_3 l4_4 l5_0 l5_1 l5_2 l5_3 l5_4) (L92_1 x_0 x_1 l4_0 l4_1 l4_2 l4_3 l4_4 l5_0 l5_1 l5_2 l5_3 l5_4) h
    have z : S92_1 call (I92_1 N call n) x_0 x_1 l4_0 l4_1 l4_2 l4_3 l4_4 l5_0 l5_1 l5_2 l5_3 l5_4 h = I92_1 N call (n + 1) x_0 x_1 l4_0 l4_1 l4_2 l4_3 l4_4 l5_0 l5_1 l5_2 l5_3 l5_4 h := by kernel_rfl
    exact g.trans (r.trans z)
theorem Z92_1 (N : Nat) (call : CT) (x_0 : OA) (x_1 : Int) (l4_0 l4_1 : AV) (l4_2 l4_3 : AV) (l4_4 l5_0 : AV) (l5_1 l5_2 : AV) (l5_3 l5_4 : AV) (h : H) : (E92_1 N call) (T92_1 x_0 x_1 l4_0 l4_1 l4_2 l4_3 l4_4 l5_0 l5_1 l5_2 l5_3 l5_4) (L92_1 x_0 x_1 l4_0 l4_1 l4_2 l4_3 l4_4 l5_0 l5_1 l5_2 l5_3 l5_4) h = C92_1 N call x_0 x_1 l4_0 l4_1 l4_2 l4_3 l4_4 l5_0 l5_1 l5_2 l5_3 l5_4 h := by
  have g : (E92_1 N call) (T92_1 x_0 x_1 l4_0 l4_1 l4_2 l4_3 l4_4 l5_0 l5_1 l5_2 l5_3 l5_4) (L92_1 x_0 x_1 l4_0 l4_1 l4_2 l4_3 l4_4 l5_0 l5_1 l5_2 l5_3 l5_4) h = iter (F92_1 N call) N (T92_1 x_0 x_1 l4_0 l4_1 l4_2 l4_3 l4_4 l5_0 l5_1 l5_2 l5_3 l5_4) (L92_1 x_0 x_1 l4_0 l4_1 l4_2 l4_3 l4_4 l5_0 l5_1 l5_2 l5_3 l5_4) h := by kernel_rfl
  have z : I92_1 N call N x_0 x_1 l4_0 l4_1 l4_2 l4_3 l4_4 l5_0 l5_1 l5_2 l5_3 l5_4 h = C92_1 N call x_0 x_1 l4_0 l4_1 l4_2 l4_3 l4_4 l5_0 l5_1 l5_2 l5_3 l5_4 h := by kernel_rfl
  exact g.trans ((Q92_1 N call N x_0 x_1 l4_0 l4_1 l4_2 l4_3 l4_4 l5_0 l5_1 l5_2 l5_3 l5_4 h).trans z)
theorem R92_0 (N : Nat) (call : CT) (y0 y1 : AV) (h : H) : body Tryz.prog N call Tryz.f92 A92.an [y0, y1] h = S92_0 call (fun (x_0 : OA) (x_1 : Int) (l4_0 l4_1 : AV) (l4_2 l4_3 : AV) (l4_4 l5_0 : AV) (l5_1 l5_2 : AV) (l5_3 l5_4 : AV) h => (E92_1 N call) (T92_1 x_0 x_1 l4_0 l4_1 l4_2 l4_3 l4_4 l5_0 l5_1 l5_2 l5_3 l5_4) (L92_1 x_0 x_1 l4_0 l4_1 l4_2 l4_3 l4_4 l5_0 l5_1 l5_2 l5_3 l5_4) h) y0 y1 h := by kernel_rfl
theorem Z92 (N : Nat) (call : CT) (y0 y1 : AV) (h : H) : body Tryz.prog N call Tryz.f92 A92.an [y0, y1] h = S92 N call y0 y1 h := by
  have e1 : (fun (x_0 : OA) (x_1 : Int) (l4_0 l4_1 : AV) (l4_2 l4_3 : AV) (l4_4 l5_0 : AV) (l5_1 l5_2 : AV) (l5_3 l5_4 : AV) h => (E92_1 N call) (T92_1 x_0 x_1 l4_0 l4_1 l4_2 l4_3 l4_4 l5_0 l5_1 l5_2 l5_3 l5_4) (L92_1 x_0 x_1 l4_0 l4_1 l4_2 l4_3 l4_4 l5_0 l5_1 l5_2 l5_3 l5_4) h) = (C92_1 N call) := by
    funext x_0 x_1 l4_0 l4_1 l4_2 l4_3 l4_4 l5_0 l5_1 l5_2 l5_3 l5_4 h
    exact Z92_1 N call x_0 x_1 l4_0 l4_1 l4_2 l4_3 l4_4 l5_0 l5_1 l5_2 l5_3 l5_4 h
  have r := R92_0 N call y0 y1 h
  rw [e1] at r
  have z : S92_0 call (C92_1 N call) y0 y1 h = S92 N call y0 y1 h := by kernel_rfl
  exact r.trans z
theorem V92 (N : Nat) (call : CT) (vs : List AV) (h : H) : body Tryz.prog N call Tryz.f92 A92.an vs h = row2 (fun y0 y1 => S92 N call y0 y1 h) vs := wrap2 (by kernel_rfl) (fun y0 y1 => Z92 N call y0 y1 h) vs
/- slices.IndexFunc[[]sibyl/api.Decl,sibyl/api.Decl] -/
def A99.a0 : Ann := .items [.op 0]
def A99.a1 : Ann := .items [.op 0, .op 1, .op 2]
def A99.a2 : Ann := .items [.op 0]
def A99.a3 : Ann := .leaf
def A99.a4 : Ann := .leaf
def A99.a5 : Ann := .two A99.a3 A99.a4
def A99.a6 : Ann := .items [.op 0, .op 1]
def A99.a7 : Ann := .items [.op 0, .op 1, .op 2, .op 3, .op 4, .op 5]
def A99.a8 : Ann := .items [.op 0, .op 1]
def A99.a9 : Ann := .leaf
def A99.a10 : Ann := .two A99.a8 A99.a9
def A99.a11 : Ann := .leaf
def A99.a12 : Ann := .two A99.a10 A99.a11
def A99.a13 : Ann := .two A99.a7 A99.a12
def A99.a14 : Ann := .two A99.a6 A99.a13
def A99.a15 : Ann := .one A99.a14
def A99.a16 : Ann := .items [.op 0, .op 1]
def A99.a17 : Ann := .two A99.a15 A99.a16
def A99.a18 : Ann := .two A99.a5 A99.a17
def A99.a19 : Ann := .two A99.a2 A99.a18
def A99.a20 : Ann := .meet [0, 1, 7, 8] [] A99.a19
def A99.a21 : Ann := .one A99.a20
def A99.a22 : Ann := .two A99.a1 A99.a21
def A99.a23 : Ann := .items [.op 0]
def A99.a24 : Ann := .leaf
def A99.a25 : Ann := .two A99.a23 A99.a24
def A99.a26 : Ann := .two A99.a22 A99.a25
def A99.an : Ann := .two A99.a0 A99.a26
def F99_1 (N : Nat) (call : CT) (self : K3) : K3 :=
  (codeK Tryz.prog N call (c1 (c1 (c2 (c1 (c2 (bodyOf Tryz.f99)))))) A99.a19 (fun T L h => self (keepT [0, 1, 7, 8] T) (keepL [] L) h) (fun i T L h => match Nat.beq i 0 with | true => (codeK Tryz.prog N call (c2 (c2 (bodyOf Tryz.f99))) A99.a25 (resK Tryz.prog Tryz.f99.results.toList) (fun _ _ _ _ => none) (resK Tryz.prog Tryz.f99.results.toList)) T L h | false => (fun _ _ _ _ => none) i T L h) (resK Tryz.prog Tryz.f99.results.toList))
def E99_1 (N : Nat) (call : CT) : K3 := iter (F99_1 N call) N
def S99_1 (call : CT) (k1 : OA → Nat → Option Nat → AV → Int → Int → H → R) (a_0 : OA) (n_0 : Nat) (c_0 : Option Nat) (x_1 : AV) (x_7 x_8 : Int) (h : H) : R :=
  ifB (ltI x_8 x_7) (idxAddr 3 a_0 n_0 x_8 (fun b1 o2 => ldK h b1 o2 3 (fun l3 => row3 (fun x4 x5 x6 => onFn x_1 (fun g9 q10 q11 => bindR (call g9 (q10 ++ [(.agg [x4, x5, x6])] ++ q11) h) (fun v7 h8 => onBool v7 (fun e12 => ifB e12 (some ((.int .i64 x_8), h8)) (k1 a_0 n_0 c_0 x_1 x_7 (wrapF .i64 (Int.add x_8 (Int.ofNat 1))) h8))))) l3))) (some ((.int .i64 (Int.negSucc 0)), h))
def S99_0 (call : CT) (k1 : OA → Nat → Option Nat → AV → Int → Int → H → R) (y0 y1 : AV) (h : H) : R :=
  onSlice y0 (fun a1 n2 c3 => k1 a1 n2 c3 y1 (Int.ofNat n2) (Int.ofNat 0) h)
def B99_1 (N : Nat) (call : CT) (ih : OA → Nat → Option Nat → AV → Int → Int → H → R) : OA → Nat → Option Nat → AV → Int → Int → H → R := S99_1 call ih
def I99_1 (N : Nat) (call : CT) (n : Nat) : OA → Nat → Option Nat → AV → Int → Int → H → R := Nat.rec (motive := fun _ => OA → Nat → Option Nat → AV → Int → Int → H → R) (fun _ _ _ _ _ _ _ => none) (fun _ ih => B99_1 N call ih) n
def C99_1 (N : Nat) (call : CT) : OA → Nat → Option Nat → AV → Int → Int → H → R := I99_1 N call N
def S99 (N : Nat) (call : CT) (y0 y1 : AV) (h : H) : R := S99_0 call (C99_1 N call) y0 y1 h
def T99_1 (a_0 : OA) (n_0 : Nat) (c_0 : Option Nat) (x_1 : AV) (x_7 x_8 : Int) : LF := [(some (.v (.slice a_0 n_0 c_0))), (some (.v x_1)), oo, oo, oo, oo, oo, (some (.v (.int .i64 x_7))), (some (.v (.int .i64 x_8))), oo, oo, oo, oo, oo, oo, oo, oo, oo, oo]
def L99_1 (a_0 : OA) (n_0 : Nat) (c_0 : Option Nat) (x_1 : AV) (x_7 x_8 : Int) : LL := [oo, oo, oo, oo, oo, oo, oo, oo, oo, oo, oo, oo, oo, oo, oo, oo, oo, oo, oo]
theorem R99_1 (N : Nat) (call : CT) (self : K3) (a_0 : OA) (n_0 : Nat) (c_0 : Option Nat) (x_1 : AV) (x_7 x_8 : Int) (h : H) : F99_1 N call self (T99_1 a_0 n_0 c_0 x_1 x_7 x_8) (L99_1 a_0 n_0 c_0 x_1 x_7 x_8) h = S99_1 call (fun (a_0 : OA) (n_0 : Nat) (c_0 : Option Nat) (x_1 : AV) (x_7 x_8 : Int) h => self (T99_1 a_0 n_0 c_0 x_1 x_7 x_8) (L99_1 a_0 n_0 c_0 x_1 x_7 x_8) h) a_0 n_0 c_0 x_1 x_7 x_8 h := by kernel_rfl
theorem Q99_1 (N : Nat) (call : CT) (n : Nat) : ∀ (a_0 : OA) (n_0 : Nat) (c_0 : Option Nat) (x_1 : AV) (x_7 x_8 : Int) (h : H), (iter (F99_1 N call) n) (T99_1 a_0 n_0 c_0 x_1 x_7 x_8) (L99_1 a_0 n_0 c_0 x_1 x_7 x_8) h = I99_1 N call n a_0 n_0 c_0 x_1 x_7 x_8 h := by
  induction n with
  | zero => intros; exact (iter_zero _ _ _ _).trans (by kernel_rfl)
  | succ n ih =>
    intro a_0 n_0 c_0 x_1 x_7 x_8 h
    have e0 : (fun (a_0 : OA) (n_0 : Nat) (c_0 : Option Nat) (x_1 : AV) (x_7 x_8 : Int) h => (iter (F99_1 N call) n) (T99_1 a_0 n_0 c_0 x_1 x_7 x_8) (L99_1 a_0 n_0 c_0 x_1 x_7 x_8) h) = (I99_1 N call n) := by funext a_0 n_0 c_0 x_1 x_7 x_8 h; exact ih a_0 n_0 c_0 x_1 x_7 x_8 h
    have r := R99_1 N call (iter (F99_1 N call) n) a_0 n_0 c_0 x_1 x_7 x_8 h
    rw [e0] at r
    have g := iter_succ (F99_1 N call) n (T99_1 a_0 n_0 c_0 x_1 x_7 x_8) (L99_1 a_0 n_0 c_0 x_1 x_7 x_8) h
    have z : S99_1 call (I99_1 N call n) a_0 n_0 c_0 x_1 x_7 x_8 h = I99_1 N call (n + 1) a_0 n_0 c_0 x_1 x_7 x_8 h := by kernel_rfl
    exact g.trans (r.trans z)
theorem Z99_1 (N : Nat) (call : CT) (a_0 : OA) (n_0 : Nat) (c_0 : Option Nat) (x_1 : AV) (x_7 x_8 : Int) (h : H) : (E99_1 N call) (T99_1 a_0 n_0 c_0 x_1 x_7 x_8) (L99_1 a_0 n_0 c_0 x_1 x_7 x_8) h = C99_1 N call a_0 n_0 c_0 x_1 x_7 x_8 h := by
  have g : (E99_1 N call) (T99_1 a_0 n_0 c_0 x_1 x_7 x_8) (L99_1 a_0 n_0 c_0 x_1 x_7 x_8) h = iter (F99_1 N call) N (T99_1 a_0 n_0 c_0 x_1 x_7 x_8) (L99_1 a_0 n_0 c_0 x_1 x_7 x_8) h := by kernel_rfl
  have z : I99_1 N call N a_0 n_0 c_0 x_1 x_7 x_8 h = C99_1 N call a_0 n_0 c_0 x_1 x_7 x_8 h := by kernel_rfl
  exact g.trans ((Q99_1 N call N a_0 n_0 c_0 x_1 x_7 x_8 h).trans z)
theorem R99_0 (N : Nat) (call : CT) (y0 y1 : AV) (h : H) : body Tryz.prog N call Tryz.f99 A99.an [y0, y1] h = S99_0 call (fun (a_0 : OA) (n_0 : Nat) (c_0 : Option Nat) (x_1 : AV) (x_7 x_8 : Int) h => (E99_1 N call) (T99_1 a_0 n_0 c_0 x_1 x_7 x_8) (L99_1 a_0 n_0 c_0 x_1 x_7 x_8) h) y0 y1 h := by kernel_rfl
theorem Z99 (N : Nat) (call : CT) (y0 y1 : AV) (h : H) : body Tryz.prog N call Tryz.f99 A99.an [y0, y1] h = S99 N call y0 y1 h := by
  have e1 : (fun (a_0 : OA) (n_0 : Nat) (c_0 : Option Nat) (x_1 : AV) (x_7 x_8 : Int) h => (E99_1 N call) (T99_1 a_0 n_0 c_0 x_1 x_7 x_8) (L99_1 a_0 n_0 c_0 x_1 x_7 x_8) h) = (C99_1 N call) := by
    funext a_0 n_0 c_0 x_1 x_7 x_8 h
    exact Z99_1 N call a_0 n_0 c_0 x_1 x_7 x_8 h
  have r := R99_0 N call y0 y1 h
  rw [e1] at r
  have z : S99_0 call (C99_1 N call) y0 y1 h = S99 N call y0 y1 h := by kernel_rfl
  exact r.trans z
theorem V99 (N : Nat) (call : CT) (vs : List AV) (h : H) : body Tryz.prog N call Tryz.f99 A99.an vs h = row2 (fun y0 y1 => S99 N call y0 y1 h) vs := wrap2 (by kernel_rfl) (fun y0 y1 => Z99 N call y0 y1 h) vs
/- sibyl/lex.Tokens -/
def A100.a0 : Ann := .items [.op 0, .op 1, .op 2]
def A100.a1 : Ann := .items [.op 0, .op 1, .op 2]
def A100.a2 : Ann := .items [.op 0, .op 1, .op 2]
def A100.a3 : Ann := .leaf
def A100.a4 : Ann := .two A100.a2 A100.a3
def A100.a5 : Ann := .leaf
def A100.a6 : Ann := .two A100.a4 A100.a5
def A100.a7 : Ann := .two A100.a1 A100.a6
def A100.a8 : Ann := .items [.op 0, .op 1, .op 2, .op 3]
def A100.a9 : Ann := .items [.op 0, .op 1, .op 2, .op 3, .op 4, .op 5, .op 6, .op 7, .op 8, .op 9, .op 10, .op 11, .op 12]
def A100.a10 : Ann := .items [.op 0, .op 1]
def A100.a11 : Ann := .drawn [.op 0, .op 1, .op 2, .op 3, .op 4, .op 5, .op 6, .op 7, .op 8, .op 9]
def A100.a12 : Ann := .leaf
def A100.a13 : Ann := .leaf
def A100.a14 : Ann := .two A100.a12 A100.a13
def A100.a15 : Ann := .two A100.a11 A100.a14
def A100.a16 : Ann := .items [.op 0, .op 1, .op 2]
def A100.a17 : Ann := .items [.op 0, .op 1, .op 2, .op 3, .op 4, .opL 5, .op 6, .op 7]
def A100.a18 : Ann := .items [.op 0, .op 1]
def A100.a19 : Ann := .items [.op 0, .op 1, .op 2, .op 3]
def A100.a20 : Ann := .leaf
def A100.a21 : Ann := .two A100.a19 A100.a20
def A100.a22 : Ann := .leaf
def A100.a23 : Ann := .two A100.a21 A100.a22
def A100.a24 : Ann := .two A100.a18 A100.a23
def A100.a25 : Ann := .items [.op 0, .op 1, .opL 2, .op 3, .op 4]
def A100.a26 : Ann := .two A100.a24 A100.a25
def A100.a27 : Ann := .two A100.a17 A100.a26
def A100.a28 : Ann := .two A100.a16 A100.a27
def A100.a29 : Ann := .one A100.a28
def A100.a30 : Ann := .items [.op 0, .op 1]
def A100.a31 : Ann := .two A100.a29 A100.a30
def A100.a32 : Ann := .two A100.a15 A100.a31
def A100.a33 : Ann := .meet [0, 2, 5] [] A100.a32
def A100.a34 : Ann := .one A100.a33
def A100.a35 : Ann := .two A100.a10 A100.a34
def A100.a36 : Ann := .items [.op 0, .op 1, .op 2, .op 3, .op 4]
def A100.a37 : Ann := .drawn [.op 0, .op 1, .op 2, .op 3, .op 4, .op 5, .op 6]
def A100.a38 : Ann := .leaf
def A100.a39 : Ann := .two A100.a37 A100.a38
def A100.a40 : Ann := .leaf
def A100.a41 : Ann := .two A100.a39 A100.a40
def A100.a42 : Ann := .two A100.a36 A100.a41
def A100.a43 : Ann := .items [.op 0, .op 1, .op 2, .op 3, .opL 4, .op 5, .op 6, .op 7, .op 8, .op 9, .op 10]
def A100.a44 : Ann := .leaf
def A100.a45 : Ann := .two A100.a43 A100.a44
def A100.a46 : Ann := .two A100.a42 A100.a45
def A100.a47 : Ann := .two A100.a35 A100.a46
def A100.a48 : Ann := .two A100.a9 A100.a47
def A100.a49 : Ann := .two A100.a8 A100.a48
def A100.a50 : Ann := .two A100.a7 A100.a49
def A100.an : Ann := .two A100.a0 A100.a50
def F100_1 (N : Nat) (call : CT) (self : K3) : K3 :=
  (codeK Tryz.prog N call (c1 (c1 (c2 (c1 (c2 (c2 (c2 (c2 (bodyOf Tryz.f100))))))))) A100.a32 (fun T L h => self (keepT [0, 2, 5] T) (keepL [] L) h) (fun i T L h => match Nat.beq i 0 with | true => (codeK Tryz.prog N call (c2 (c2 (c2 (c2 (c2 (bodyOf Tryz.f100)))))) A100.a46 (resK Tryz.prog Tryz.f100.results.toList) (fun _ _ _ _ => none) (resK Tryz.prog Tryz.f100.results.toList)) T L h | false => (fun _ _ _ _ => none) i T L h) (resK Tryz.prog Tryz.f100.results.toList))
def E100_1 (N : Nat) (call : CT) : K3 := iter (F100_1 N call) N
def S100_1 (call : CT) (k1 : List Nat → OA → Nat → Option Nat → OA → H → R) (x_0 : List Nat) (a_2 : OA) (n_2 : Nat) (c_2 : Option Nat) (x_5 : OA) (h : H) : R :=
  onSome x_5 (fun b1 o2 => ldK h b1 (o2 + 3) 1 (one (fun v3 => onInt .i64 v3 (fun i4 => onSome x_5 (fun b5 o6 => ldK h b5 (o6 + 1) 1 (one (fun v7 => onSlice v7 (fun a8 n9 c10 => ifB (ltI i4 (Int.ofNat n9)) (bindR (call 115 [(.ptr x_5)] h) (fun v11 h12 => onInt .i64 v11 (fun i13 => bindR (call 116 [(.ptr x_5)] h12) (fun v14 h15 => onTuple v14 0 (fun v16 => onAgR v16 (fun l21 => row4 (fun x17 x18 x19 x20 => onTuple v14 1 (fun v22 => onBool v22 (fun e23 => ifB (!e23) (some (.tuple [(.slice none 0 (some 0)), (.int .i64 i13), (.int .i64 (Int.ofNat 2))], h15)) (appL h15 4 a_2 n_2 c_2 1 [x17, x18, x19, x20] (fun a24 n25 c26 h27 => bindR (call 114 [(.ptr x_5)] h27) (fun v28 h29 => k1 x_0 a24 n25 c26 x_5 h29)))))) l21)))))) (onSome x_5 (fun b30 o31 => ldK h b30 (o31 + 2) 1 (one (fun v32 => onInt .i64 v32 (fun i33 => ifB (leI (Int.ofNat 0) i33) (onSome x_5 (fun b34 o35 => ldK h b34 (o35 + 2) 1 (one (fun v36 => onInt .i64 v36 (fun i37 => some (.tuple [(.slice none 0 (some 0)), (.int .i64 i37), (.int .i64 (Int.ofNat 2))], h)))))) (appL h 4 a_2 n_2 c_2 1 [(.int .i64 (Int.ofNat 4)), (.str []), (.int .i64 (Int.ofNat 0)), (.int .i64 (Int.ofNat (x_0).length))] (fun a38 n39 c40 h41 => some (.tuple [(.slice a38 n39 c40), (.int .i64 (Int.ofNat (x_0).length)), (.int .i64 (Int.ofNat 0))], h41))))))))))))))))
def S100_0 (call : CT) (k1 : List Nat → OA → Nat → Option Nat → OA → H → R) (y0 : AV) (h : H) : R :=
  onStr y0 (fun s1 => ifB (ltI (Int.ofNat 2000) (Int.ofNat (s1).length)) (some (.tuple [(.slice none 0 (some 0)), (.int .i64 (Int.ofNat 0)), (.int .i64 (Int.ofNat 3))], h)) (newK h [(.str s1), (.slice none 0 (some 0)), (.int .i64 (Int.ofNat 0)), (.int .i64 (Int.ofNat 0))] (fun b2 h3 => bindR (call 113 [(.str s1)] h3) (fun v4 h5 => onTuple v4 0 (fun v6 => onSlice v6 (fun a7 n8 c9 => onTuple v4 1 (fun v10 => onInt .i64 v10 (fun i11 => stK h5 b2 1 [(.slice a7 n8 c9)] (fun h12 => stK h12 b2 2 [(.int .i64 i11)] (fun h13 => bindR (call 114 [(.ptr (some (b2, 0)))] h13) (fun v14 h15 => k1 s1 none 0 (some 0) (some (b2, 0)) h15)))))))))))
def B100_1 (N : Nat) (call : CT) (ih : List Nat → OA → Nat → Option Nat → OA → H → R) : List Nat → OA → Nat → Option Nat → OA → H → R := S100_1 call ih
def I100_1 (N : Nat) (call : CT) (n : Nat) : List Nat → OA → Nat → Option Nat → OA → H → R := Nat.rec (motive := fun _ => List Nat → OA → Nat → Option Nat → OA → H → R) (fun _ _ _ _ _ _ => none) (fun _ ih => B100_1 N call ih) n
def C100_1 (N : Nat) (call : CT) : List Nat → OA → Nat → Option Nat → OA → H → R := I100_1 N call N
def S100 (N : Nat) (call : CT) (y0 : AV) (h : H) : R := S100_0 call (C100_1 N call) y0 h
def T100_1 (x_0 : List Nat) (a_2 : OA) (n_2 : Nat) (c_2 : Option Nat) (x_5 : OA) : LF := [(some (.v (.str x_0))), none, (some (.v (.slice a_2 n_2 c_2))), none, none, (some (.v (.ptr x_5))), oo, oo, oo, oo, oo, oo, oo, oo, oo, oo, oo, oo, oo, oo, oo, oo, oo, oo, oo, oo, oo, oo, oo, oo, oo, oo, oo, oo, oo, oo, oo, oo, oo, oo, oo, oo, oo, oo, oo, oo, oo, oo, oo, oo, oo, oo, oo, oo, oo, oo, oo, oo, oo, oo, oo, oo, oo, oo, oo, oo, oo, oo, oo, oo, oo]
def L100_1 (x_0 : List Nat) (a_2 : OA) (n_2 : Nat) (c_2 : Option Nat) (x_5 : OA) : LL := [oo, oo, oo, oo, oo, oo, oo, oo, oo, oo, oo, oo, oo, oo, oo, oo, oo, oo, oo, oo, oo, oo, oo, oo, oo, oo, oo, oo, oo, oo, oo, oo, oo, oo, oo, oo, oo, oo, oo, oo, oo, oo, oo, oo, oo, oo, oo, oo, oo, oo, oo, oo, oo, oo, oo, oo, oo, oo, oo, oo, oo, oo, oo, oo, oo, oo, oo, oo, oo, oo, oo]
theorem R100_1 (N : Nat) (call : CT) (self : K3) (x_0 : List Nat) (a_2 : OA) (n_2 : Nat) (c_2 : Option Nat) (x_5 : OA) (h : H) : F100_1 N call self (T100_1 x_0 a_2 n_2 c_2 x_5) (L100_1 x_0 a_2 n_2 c_2 x_5) h = S100_1 call (fun (x_0 : List Nat) (a_2 : OA) (n_2 : Nat) (c_2 : Option Nat) (x_5 : OA) h => self (T100_1 x_0 a_2 n_2 c_2 x_5) (L100_1 x_0 a_2 n_2 c_2 x_5) h) x_0 a_2 n_2 c_2 x_5 h := by kernel_rfl
theorem Q100_1 (N : Nat) (call : CT) (n : Nat) : ∀ (x_0 : List Nat) (a_2 : OA) (n_2 : Nat) (c_2 : Option Nat) (x_5 : OA) (h : H), (iter (F100_1 N call) n) (T100_1 x_0 a_2 n_2 c_2 x_5) (L100_1 x_0 a_2 n_2 c_2 x_5) h = I100_1 N call n x_0 a_2 n_2 c_2 x_5 h := by
  induction n with
  | zero => intros; exact (iter_zero _ _ _ _).trans (by kernel_rfl)
  | succ n ih =>
    intro x_0 a_2 n_2 c_2 x_5 h
    have e0 : (fun (x_0 : List Nat) (a_2 : OA) (n_2 : Nat) (c_2 : Option Nat) (x_5 : OA) h => (iter (F100_1 N call) n) (T100_1 x_0 a_2 n_2 c_2 x_5) (L100_1 x_0 a_2 n_2 c_2 x_5) h) = (I100_1 N call n) := by funext x_0 a_2 n_2 c_2 x_5 h; exact ih x_0 a_2 n_2 c_2 x_5 h
    have r := R100_1 N call (iter (F100_1 N call) n) x_0 a_2 n_2 c_2 x_5 h
    rw [e0] at r
    have g := iter_succ (F100_1 N call) n (T100_1 x_0 a_2 n_2 c_2 x_5) (L100_1 x_0 a_2 n_2 c_2 x_5) h
    have z : S100_1 call (I100_1 N call n) x_0 a_2 n_2 c_2 x_5 h = I100_1 N call (n + 1) x_0 a_2 n_2 c_2 x_5 h := by kernel_rfl
    exact g.trans (r.trans z)
theorem Z100_1 (N : Nat) (call : CT) (x_0 : List Nat) (a_2 : OA) (n_2 : Nat) (c_2 : Option Nat) (x_5 : OA) (h : H) : (E100_1 N call) (T100_1 x_0 a_2 n_2 c_2 x_5) (L100_1 x_0 a_2 n_2 c_2 x_5) h = C100_1 N call x_0 a_2 n_2 c_2 x_5 h := by
  have g : (E100_1 N call) (T100_1 x_0 a_2 n_2 c_2 x_5) (L100_1 x_0 a_2 n_2 c_2 x_5) h = iter (F100_1 N call) N (T100_1 x_0 a_2 n_2 c_2 x_5) (L100_1 x_0 a_2 n_2 c_2 x_5) h := by kernel_rfl
  have z : I100_1 N call N x_0 a_2 n_2 c_2 x_5 h = C100_1 N call x_0 a_2 n_2 c_2 x_5 h := by kernel_rfl
  exact g.trans ((Q100_1 N call N x_0 a_2 n_2 c_2 x_5 h).trans z)
theorem R100_0 (N : Nat) (call : CT) (y0 : AV) (h : H) : body Tryz.prog N call Tryz.f100 A100.an [y0] h = S100_0 call (fun (x_0 : List Nat) (a_2 : OA) (n_2 : Nat) (c_2 : Option Nat) (x_5 : OA) h => (E100_1 N call) (T100_1 x_0 a_2 n_2 c_2 x_5) (L100_1 x_0 a_2 n_2 c_2 x_5) h) y0 h := by kernel_rfl
theorem Z100 (N : Nat) (call : CT) (y0 : AV) (h : H) : body Tryz.prog N call Tryz.f100 A100.an [y0] h = S100 N call y0 h := by
  have e1 : (fun (x_0 : List Nat) (a_2 : OA) (n_2 : Nat) (c_2 : Option Nat) (x_5 : OA) h => (E100_1 N call) (T100_1 x_0 a_2 n_2 c_2 x_5) (L100_1 x_0 a_2 n_2 c_2 x_5) h) = (C100_1 N call) := by
    funext x_0 a_2 n_2 c_2 x_5 h
    exact Z100_1 N call x_0 a_2 n_2 c_2 x_5 h
  have r := R100_0 N call y0 h
  rw [e1] at r
  have z : S100_0 call (C100_1 N call) y0 h = S100 N call y0 h := by kernel_rfl
  exact r.trans z
theorem V100 (N : Nat) (call : CT) (vs : List AV) (h : H) : body Tryz.prog N call Tryz.f100 A100.an vs h = row1 (fun y0 => S100 N call y0 h) vs := wrap1 (by kernel_rfl) (fun y0 => Z100 N call y0 h) vs
/- sibyl/tree.Depth -/
def A101.a0 : Ann := .items [.opL 0, .op 1]
def A101.a1 : Ann := .items [.op 0, .op 1, .op 2]
def A101.a2 : Ann := .leaf
def A101.a3 : Ann := .two A101.a1 A101.a2
def A101.an : Ann := .two A101.a0 A101.a3
def S101_0 (call : CT) (y0 : AV) (h : H) : R :=
  onAgR y0 (fun l6 => row5 (fun x1 x2 x3 x4 x5 => bindR (call 117 [(.agg [x1, x2, x3, x4, x5]), (.int .i64 (Int.ofNat 31))] h) (fun v7 h8 => onInt .i64 v7 (fun i9 => some ((.int .i64 i9), h8)))) l6)
def S101 (N : Nat) (call : CT) (y0 : AV) (h : H) : R := S101_0 call y0 h
theorem R101_0 (N : Nat) (call : CT) (y0 : AV) (h : H) : body Tryz.prog N call Tryz.f101 A101.an [y0] h = S101_0 call y0 h := by kernel_rfl
theorem Z101 (N : Nat) (call : CT) (y0 : AV) (h : H) : body Tryz.prog N call Tryz.f101 A101.an [y0] h = S101 N call y0 h := by
  have r := R101_0 N call y0 h
  have z : S101_0 call y0 h = S101 N call y0 h := by kernel_rfl
  exact r.trans z
theorem V101 (N : Nat) (call : CT) (vs : List AV) (h : H) : body Tryz.prog N call Tryz.f101 A101.an vs h = row1 (fun y0 => S101 N call y0 h) vs := wrap1 (by kernel_rfl) (fun y0 => Z101 N call y0 h) vs
/- sibyl/tree.bare -/
def A102.a0 : Ann := .items [.opL 0, .op 1]
def A102.a1 : Ann := .items [.op 0, .op 1, .op 2, .op 3, .split 8, .op 4, .op 5, .op 6, .op 7, .op 8, .split 13, .op 9, .op 10, .op 11, .op 12, .op 13, .op 14, .op 15]
def A102.a2 : Ann := .leaf
def A102.a3 : Ann := .two A102.a1 A102.a2
def A102.an : Ann := .two A102.a0 A102.a3
def S102_0 (call : CT) (y0 y1 : AV) (h : H) : R :=
  onAgR y0 (fun l6 => row5 (fun x1 x2 x3 x4 x5 => onInt .i64 y1 (fun i7 => onStr x2 (fun s8 => ifB (eqS s8 []) (onInt .i64 x3 (fun i9 => ifB (eqI i9 (Int.ofNat 0)) (onSlice x5 (fun a10 n11 c12 => some ((.bool (eqI (Int.ofNat n11) i7)), h))) (some ((.bool false), h)))) (some ((.bool false), h))))) l6)
def S102 (N : Nat) (call : CT) (y0 y1 : AV) (h : H) : R := S102_0 call y0 y1 h
theorem R102_0 (N : Nat) (call : CT) (y0 y1 : AV) (h : H) : body Tryz.prog N call Tryz.f102 A102.an [y0, y1] h = S102_0 call y0 y1 h := by kernel_rfl
theorem Z102 (N : Nat) (call : CT) (y0 y1 : AV) (h : H) : body Tryz.prog N call Tryz.f102 A102.an [y0, y1] h = S102 N call y0 y1 h := by
  have r := R102_0 N call y0 y1 h
  have z : S102_0 call y0 y1 h = S102 N call y0 y1 h := by kernel_rfl
  exact r.trans z
theorem V102 (N : Nat) (call : CT) (vs : List AV) (h : H) : body Tryz.prog N call Tryz.f102 A102.an vs h = row2 (fun y0 y1 => S102 N call y0 y1 h) vs := wrap2 (by kernel_rfl) (fun y0 y1 => Z102 N call y0 y1 h) vs
/- sibyl/tree.all -/
def A103.a0 : Ann := .items [.opL 0, .op 1, .op 2]
def A103.a1 : Ann := .items [.op 0, .op 1, .op 2, .op 3, .op 4, .op 5]
def A103.a2 : Ann := .leaf
def A103.a3 : Ann := .two A103.a1 A103.a2
def A103.an : Ann := .two A103.a0 A103.a3
def S103_0 (call : CT) (y0 y1 : AV) (h : H) : R :=
  onAgR y0 (fun l6 => row5 (fun x1 x2 x3 x4 x5 => notAgg y1 (newK h [y1] (fun b7 h8 => onSlice x5 (fun a9 n10 c11 => bindR (call 118 [(.slice a9 n10 c11), (.func 119 [] [(.ptr (some (b7, 0)))])] h8) (fun v12 h13 => onBool v12 (fun e14 => some ((.bool (!e14)), h13))))))) l6)
def S103 (N : Nat) (call : CT) (y0 y1 : AV) (h : H) : R := S103_0 call y0 y1 h
theorem R103_0 (N : Nat) (call : CT) (y0 y1 : AV) (h : H) : body Tryz.prog N call Tryz.f103 A103.an [y0, y1] h = S103_0 call y0 y1 h := by kernel_rfl
theorem Z103 (N : Nat) (call : CT) (y0 y1 : AV) (h : H) : body Tryz.prog N call Tryz.f103 A103.an [y0, y1] h = S103 N call y0 y1 h := by
  have r := R103_0 N call y0 y1 h
  have z : S103_0 call y0 y1 h = S103 N call y0 y1 h := by kernel_rfl
  exact r.trans z
theorem V103 (N : Nat) (call : CT) (vs : List AV) (h : H) : body Tryz.prog N call Tryz.f103 A103.an vs h = row2 (fun y0 y1 => S103 N call y0 y1 h) vs := wrap2 (by kernel_rfl) (fun y0 y1 => Z103 N call y0 y1 h) vs
/- sibyl/tree.isTerm -/
def A104.a0 : Ann := .items [.opL 0, .op 1]
def A104.a1 : Ann := .items [.op 0, .op 1]
def A104.a2 : Ann := .items [.op 0, .op 1]
def A104.a3 : Ann := .items [.op 0, .op 1, .op 2, .op 3, .split 10, .op 4, .op 5, .op 6, .op 7, .op 8, .split 15, .op 9, .op 10, .op 11, .op 12, .op 13, .op 14]
def A104.a4 : Ann := .leaf
def A104.a5 : Ann := .two A104.a3 A104.a4
def A104.a6 : Ann := .items [.op 0, .op 1]
def A104.a7 : Ann := .items [.op 0, .op 1, .op 2, .op 3, .split 26, .op 4, .op 5, .op 6, .op 7, .op 8, .split 31, .op 9, .op 10, .op 11, .op 12, .op 13, .split 36, .op 14, .op 15, .op 16, .op 17, .op 18, .op 19]
def A104.a8 : Ann := .leaf
def A104.a9 : Ann := .two A104.a7 A104.a8
def A104.a10 : Ann := .items [.op 0, .op 1]
def A104.a11 : Ann := .items [.op 0, .op 1, .op 2, .op 3, .split 47, .op 4, .op 5, .op 6, .op 7, .op 8, .split 52, .op 9, .op 10, .op 11, .op 12, .op 13, .split 57, .op 14, .op 15, .op 16, .op 17, .op 18, .op 19, .split 63, .op 20, .op 21, .op 22, .op 23, .op 24, .op 25, .op 26, .op 27, .split 71, .op 28, .op 29, .op 30, .op 31, .op 32, .op 33, .op 34]
def A104.a12 : Ann := .leaf
def A104.a13 : Ann := .two A104.a11 A104.a12
def A104.a14 : Ann := .items [.op 0, .op 1]
def A104.a15 : Ann := .items [.op 0, .op 1, .op 2, .op 3, .split 83, .op 4, .op 5, .op 6, .op 7, .op 8, .split 88, .op 9, .op 10, .op 11, .op 12, .op 13, .op 14, .split 94, .op 15, .op 16, .op 17, .op 18]
def A104.a16 : Ann := .leaf
def A104.a17 : Ann := .two A104.a15 A104.a16
def A104.a18 : Ann := .items [.op 0, .op 1]
def A104.a19 : Ann := .leaf
def A104.a20 : Ann := .items [.op 0, .op 1]
def A104.a21 : Ann := .leaf
def A104.a22 : Ann := .items [.op 0, .op 1]
def A104.a23 : Ann := .two A104.a21 A104.a22
def A104.a24 : Ann := .two A104.a20 A104.a23
def A104.a25 : Ann := .two A104.a19 A104.a24
def A104.a26 : Ann := .two A104.a18 A104.a25
def A104.a27 : Ann := .items [.op 0, .op 1, .op 2, .split 104, .op 3, .op 4, .op 5, .op 6, .split 108, .op 7, .op 8, .op 9, .op 10, .op 11, .op 12, .op 13, .op 14]
def A104.a28 : Ann := .leaf
def A104.a29 : Ann := .two A104.a27 A104.a28
def A104.a30 : Ann := .leaf
def A104.a31 : Ann := .two A104.a29 A104.a30
def A104.a32 : Ann := .join [1, 98] [1] A104.a26 A104.a31
def A104.a33 : Ann := .two A104.a17 A104.a32
def A104.a34 : Ann := .two A104.a14 A104.a33
def A104.a35 : Ann := .two A104.a13 A104.a34
def A104.a36 : Ann := .two A104.a10 A104.a35
def A104.a37 : Ann := .two A104.a9 A104.a36
def A104.a38 : Ann := .two A104.a6 A104.a37
def A104.a39 : Ann := .two A104.a5 A104.a38
def A104.a40 : Ann := .two A104.a2 A104.a39
def A104.a41 : Ann := .one A104.a40
def A104.a42 : Ann := .two A104.a1 A104.a41
def A104.a43 : Ann := .items [.op 0]
def A104.a44 : Ann := .leaf
def A104.a45 : Ann := .two A104.a43 A104.a44
def A104.a46 : Ann := .join [] [] A104.a42 A104.a45
def A104.an : Ann := .two A104.a0 A104.a46
def E104_1 (N : Nat) (call : CT) : K3 :=
  (codeK Tryz.prog N call (c2 (c2 (bodyOf Tryz.f104))) A104.a45 (resK Tryz.prog Tryz.f104.results.toList) (fun _ _ _ _ => none) (resK Tryz.prog Tryz.f104.results.toList))
def E104_2 (N : Nat) (call : CT) : K3 :=
  (codeK Tryz.prog N call (c2 (c2 (c2 (c2 (c2 (c2 (c2 (c2 (c2 (c1 (c2 (c1 (c2 (bodyOf Tryz.f104)))))))))))))) A104.a31 (fun T L h => (E104_1 N call) (keepT [] T) (keepL [] L) h) (fun i T L h => match Nat.beq i 0 with | true => (fun T L h => (E104_1 N call) (keepT [] T) (keepL [] L) h) T L h | false => (fun _ _ _ _ => none) i T L h) (resK Tryz.prog Tryz.f104.results.toList))
def S104_1 (call : CT) (h : H) : R :=
  some ((.bool false), h)
def S104_2 (call : CT) (k1 : H → R) (x_98 : Bool) (l1_0 l1_1 : AV) (l1_2 l1_3 l1_4 : AV) (h : H) : R :=
  ifB x_98 (bindR (call 102 [(.agg [l1_0, l1_1, l1_2, l1_3, l1_4]), (.int .i64 (Int.ofNat 2))] h) (fun v1 h2 => onBool v1 (fun e3 => ifB e3 (bindR (call 103 [(.agg [l1_0, l1_1, l1_2, l1_3, l1_4]), (.func 104 [] [])] h2) (fun v4 h5 => onBool v4 (fun e6 => ifB e6 (onSlice l1_4 (fun a7 n8 c9 => idxAddr 5 a7 n8 (Int.ofNat 1) (fun b10 o11 => ldK h5 b10 o11 5 (fun l12 => row5 (fun x13 x14 x15 x16 x17 => bindR (call 121 [(.agg [x13, x14, x15, x16, x17])] h5) (fun v18 h19 => onBool v18 (fun e20 => some ((.bool (!e20)), h19)))) l12)))) (some ((.bool false), h5))))) (some ((.bool false), h2))))) (k1  h)
def S104_0 (call : CT) (k2 : Bool → AV → AV → AV → AV → AV → H → R) (y0 : AV) (h : H) : R :=
  onAgR y0 (fun l6 => row5 (fun x1 x2 x3 x4 x5 => onStr x1 (fun s7 => ifB (eqS s7 [118, 97, 114]) (onStr x2 (fun s8 => bindR (call 76 [(.str s8)] h) (fun v9 h10 => onBool v9 (fun e11 => ifB e11 (onInt .i64 x3 (fun i12 => ifB (eqI i12 (Int.ofNat 0)) (onSlice x5 (fun a13 n14 c15 => some ((.bool (eqI (Int.ofNat n14) (Int.ofNat 0))), h10))) (some ((.bool false), h10)))) (some ((.bool false), h10)))))) (ifB (eqS s7 [110, 117, 109]) (onStr x2 (fun s16 => ifB (eqS s16 []) (onInt .i64 x3 (fun i17 => ifB (leI (Int.ofNat 0) i17) (onInt .i64 x3 (fun i18 => ifB (leI i18 (Int.ofNat 99)) (onSlice x5 (fun a19 n20 c21 => some ((.bool (eqI (Int.ofNat n20) (Int.ofNat 0))), h))) (some ((.bool false), h)))) (some ((.bool false), h)))) (some ((.bool false), h)))) (ifB (eqS s7 [112, 108, 117, 115]) (onStr x2 (fun s22 => ifB (eqS s22 []) (onInt .i64 x3 (fun i23 => ifB (leI (Int.ofNat 1) i23) (onInt .i64 x3 (fun i24 => ifB (leI i24 (Int.ofNat 99)) (onSlice x5 (fun a25 n26 c27 => ifB (eqI (Int.ofNat n26) (Int.ofNat 1)) (onSlice x5 (fun a28 n29 c30 => idxAddr 5 a28 n29 (Int.ofNat 0) (fun b31 o32 => ldK h b31 (o32 + 0) 1 (one (fun v33 => onStr v33 (fun s34 => ifB (eqS s34 [118, 97, 114]) (onSlice x5 (fun a35 n36 c37 => idxAddr 5 a35 n36 (Int.ofNat 0) (fun b38 o39 => ldK h b38 o39 5 (fun l40 => row5 (fun x41 x42 x43 x44 x45 => bindR (call 104 [(.agg [x41, x42, x43, x44, x45])] h) (fun v46 h47 => onBool v46 (fun e48 => some ((.bool e48), h47)))) l40)))) (some ((.bool false), h)))))))) (some ((.bool false), h)))) (some ((.bool false), h)))) (some ((.bool false), h)))) (some ((.bool false), h)))) (ifB (eqS s7 [115, 101, 116]) (onStr x2 (fun s49 => ifB (eqS s49 []) (onInt .i64 x3 (fun i50 => ifB (eqI i50 (Int.ofNat 0)) (onSlice x5 (fun a51 n52 c53 => ifB (leI (Int.ofNat n52) (Int.ofNat 6)) (bindR (call 103 [(.agg [x1, x2, x3, x4, x5]), (.func 120 [] [])] h) (fun v54 h55 => onBool v54 (fun e56 => some ((.bool e56), h55)))) (some ((.bool false), h)))) (some ((.bool false), h)))) (some ((.bool false), h)))) (ifB (eqS s7 [117, 110, 105, 111, 110]) (k2 (eqS s7 [117, 110, 105, 111, 110]) x1 x2 x3 x4 x5 h) (ifB (eqS s7 [105, 110, 116, 101, 114]) (k2 (eqS s7 [105, 110, 116, 101, 114]) x1 x2 x3 x4 x5 h) (k2 (eqS s7 [109, 105, 110, 117, 115]) x1 x2 x3 x4 x5 h)))))))) l6)
def C104_1 (N : Nat) (call : CT) : H → R := S104_1 call
def C104_2 (N : Nat) (call : CT) : Bool → AV → AV → AV → AV → AV → H → R := S104_2 call (C104_1 N call)
def S104 (N : Nat) (call : CT) (y0 : AV) (h : H) : R := S104_0 call (C104_2 N call) y0 h
def T104_1 : LF := [oo, oo, oo, oo, oo, oo, oo, oo, oo, oo, oo, oo, oo, oo, oo, oo, oo, oo, oo, oo, oo, oo, oo, oo, oo, oo, oo, oo, oo, oo, oo, oo, oo, oo, oo, oo, oo, oo, oo, oo, oo, oo, oo, oo, oo, oo, oo, oo, oo, oo, oo, oo, oo, oo, oo, oo, oo, oo, oo, oo, oo, oo, oo, oo, oo, oo, oo, oo, oo, oo, oo, oo, oo, oo, oo, oo, oo, oo, oo, oo, oo, oo, oo, oo, oo, oo, oo, oo, oo, oo, oo, oo, oo, oo, oo, oo, oo, oo, oo, oo, oo, oo, oo, oo, oo, oo, oo, oo, oo, oo, oo, oo, oo, oo, oo, oo]
def L104_1 : LL := [oo, oo, oo, oo, oo, oo, oo, oo, oo, oo, oo, oo, oo, oo, oo, oo, oo, oo, oo, oo, oo, oo, oo, oo, oo, oo, oo, oo, oo, oo, oo, oo, oo, oo, oo, oo, oo, oo, oo, oo, oo, oo, oo, oo, oo, oo, oo, oo, oo, oo, oo, oo, oo, oo, oo, oo, oo, oo, oo, oo, oo, oo, oo, oo, oo, oo, oo, oo, oo, oo, oo, oo, oo, oo, oo, oo, oo, oo, oo, oo, oo, oo, oo, oo, oo, oo, oo, oo, oo, oo, oo, oo, oo, oo, oo, oo, oo, oo, oo, oo, oo, oo, oo, oo, oo, oo, oo, oo, oo, oo, oo, oo, oo, oo, oo, oo]
def T104_2 (x_98 : Bool) (l1_0 l1_1 : AV) (l1_2 l1_3 l1_4 : AV) : LF := [none, (some (.lptr 1 0)), oo, oo, oo, oo, oo, oo, oo, oo, oo, oo, oo, oo, oo, oo, oo, oo, oo, oo, oo, oo, oo, oo, oo, oo, oo, oo, oo, oo, oo, oo, oo, oo, oo, oo, oo, oo, oo, oo, oo, oo, oo, oo, oo, oo, oo, oo, oo, oo, oo, oo, oo, oo, oo, oo, oo, oo, oo, oo, oo, oo, oo, oo, oo, oo, oo, oo, oo, oo, oo, oo, oo, oo, oo, oo, oo, oo, oo, oo, oo, oo, oo, oo, oo, oo, oo, oo, oo, oo, oo, oo, oo, oo, oo, oo, oo, oo, (some (.v (.bool x_98))), oo, oo, oo, oo, oo, oo, oo, oo, oo, oo, oo, oo, oo, oo, oo, oo, oo]
def L104_2 (x_98 : Bool) (l1_0 l1_1 : AV) (l1_2 l1_3 l1_4 : AV) : LL := [none, (some (.cells [l1_0, l1_1, l1_2, l1_3, l1_4])), oo, oo, oo, oo, oo, oo, oo, oo, oo, oo, oo, oo, oo, oo, oo, oo, oo, oo, oo, oo, oo, oo, oo, oo, oo, oo, oo, oo, oo, oo, oo, oo, oo, oo, oo, oo, oo, oo, oo, oo, oo, oo, oo, oo, oo, oo, oo, oo, oo, oo, oo, oo, oo, oo, oo, oo, oo, oo, oo, oo, oo, oo, oo, oo, oo, oo, oo, oo, oo, oo, oo, oo, oo, oo, oo, oo, oo, oo, oo, oo, oo, oo, oo, oo, oo, oo, oo, oo, oo, oo, oo, oo, oo, oo, oo, oo, oo, oo, oo, oo, oo, oo, oo, oo, oo, oo, oo, oo, oo, oo, oo, oo, oo, oo]
theorem R104_1 (N : Nat) (call : CT) (h : H) : E104_1 N call T104_1 L104_1 h = S104_1 call h := by kernel_rfl
theorem Z104_1 (N : Nat) (call : CT) (h : H) : E104_1 N call T104_1 L104_1 h = C104_1 N call h := by
  have r := R104_1 N call h
  have z : S104_1 call h = C104_1 N call h := by kernel_rfl
  exact r.trans z
theorem R104_2 (N : Nat) (call : CT) (x_98 : Bool) (l1_0 l1_1 : AV) (l1_2 l1_3 l1_4 : AV) (h : H) : E104_2 N call (T104_2 x_98 l1_0 l1_1 l1_2 l1_3 l1_4) (L104_2 x_98 l1_0 l1_1 l1_2 l1_3 l1_4) h = S104_2 call (fun  h => (E104_1 N call) T104_1 L104_1 h) x_98 l1_0 l1_1 l1_2 l1_3 l1_4 h := by kernel_rfl
theorem Z104_2 (N : Nat) (call : CT) (x_98 : Bool) (l1_0 l1_1 : AV) (l1_2 l1_3 l1_4 : AV) (h : H) : E104_2 N call (T104_2 x_98 l1_0 l1_1 l1_2 l1_3 l1_4) (L104_2 x_98 l1_0 l1_1 l1_2 l1_3 l1_4) h = C104_2 N call x_98 l1_0 l1_1 l1_2 l1_3 l1_4 h := by
  have e1 : (fun  h => (E104_1 N call) T104_1 L104_1 h) = (C104_1 N call) := by
    funext  h
    exact Z104_1 N call h
  have r := R104_2 N call x_98 l1_0 l1_1 l1_2 l1_3 l1_4 h
  rw [e1] at r
  have z : S104_2 call (C104_1 N call) x_98 l1_0 l1_1 l1_2 l1_3 l1_4 h = C104_2 N call x_98 l1_0 l1_1 l1_2 l1_3 l1_4 h := by kernel_rfl
  exact r.trans z
theorem R104_0 (N : Nat) (call : CT) (y0 : AV) (h : H) : body Tryz.prog N call Tryz.f104 A104.an [y0] h = S104_0 call (fun (x_98 : Bool) (l1_0 l1_1 : AV) (l1_2 l1_3 l1_4 : AV) h => (E104_2 N call) (T104_2 x_98 l1_0 l1_1 l1_2 l1_3 l1_4) (L104_2 x_98 l1_0 l1_1 l1_2 l1_3 l1_4) h) y0 h := by kernel_rfl
theorem Z104 (N : Nat) (call : CT) (y0 : AV) (h : H) : body Tryz.prog N call Tryz.f104 A104.an [y0] h = S104 N call y0 h := by
  have e2 : (fun (x_98 : Bool) (l1_0 l1_1 : AV) (l1_2 l1_3 l1_4 : AV) h => (E104_2 N call) (T104_2 x_98 l1_0 l1_1 l1_2 l1_3 l1_4) (L104_2 x_98 l1_0 l1_1 l1_2 l1_3 l1_4) h) = (C104_2 N call) := by
    funext x_98 l1_0 l1_1 l1_2 l1_3 l1_4 h
    exact Z104_2 N call x_98 l1_0 l1_1 l1_2 l1_3 l1_4 h
  have r := R104_0 N call y0 h
  rw [e2] at r
  have z : S104_0 call (C104_2 N call) y0 h = S104 N call y0 h := by kernel_rfl
  exact r.trans z
theorem V104 (N : Nat) (call : CT) (vs : List AV) (h : H) : body Tryz.prog N call Tryz.f104 A104.an vs h = row1 (fun y0 => S104 N call y0 h) vs := wrap1 (by kernel_rfl) (fun y0 => Z104 N call y0 h) vs
end Go.Proofs
end
