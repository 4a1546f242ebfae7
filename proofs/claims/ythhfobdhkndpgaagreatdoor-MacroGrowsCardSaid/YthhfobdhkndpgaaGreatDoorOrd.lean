import Derived.LoopIn
import Derived.LoopNIn
import Derived.OwnWalkIn
import Derived.RangeFuncBound
import Derived.RangeFuncBox
import Derived.RangeFuncCalls
import Derived.RangeFuncLeaves
import Derived.RangeFuncNested
import Derived.Shelf.Abstract
import Derived.Shelf.RegionOpen
import Derived.TacticsInMore
import Derived.Test.YthhfobdhkndpgaaGreatDoorEvB
import Derived.Test.YthhfobdhkndpgaaGreatDoorProg
import Derived.WalkKit
set_option linter.all false
/- kinds.order: a name's order in a scope, the last one first: a range over slices.Backward. -/
namespace Go.Proofs
open Go.RowKit Go.Shelf Go.Ev
attribute [local go_sem] Oper.semAt_some
def Ord.upto {α : Type} (f : Nat → α) (k : Nat) : List α := (List.range k).map f
theorem Ord.upto_succ {α : Type} (f : Nat → α) (k : Nat) : Ord.upto f (k + 1) = Ord.upto f k ++ [f k] := by simp [Ord.upto, List.range_succ]
theorem Ord.upto_length {α : Type} (f : Nat → α) (k : Nat) : (Ord.upto f k).length = k := by simp [Ord.upto]
def Ord.enc (d : D3) : Value := .agg #[.string d.1, .int .i64 d.2.1, .int .i64 d.2.2]
set_option maxRecDepth 100000 in
set_option maxHeartbeats 2000000 in
theorem Ord.back1_in (F : Fence) (n : Nat) (h8 : F.fn 105) (hro : F.round = none) (hn : 1 ≤ n) (l Bs n₀ b off len cap : Nat) (zs : Nat → D3) (hreach : len ≤ 1099511627776) (hb : b < n₀) (J Jx : List (Nat × D3) → World → Prop)
    (hY : ∀ pre x W, J pre W → pre.length < len → YieldAt F (n - 1) Tryz.prog l #[.int .i64 (x.1 : Int), Ord.enc x.2] W fun e W' =>
      (e = .returned (.bool true) ∧ J (pre ++ [x]) W' ∧ Below n₀ W W') ∨ (e = .returned (.bool false) ∧ Jx (pre ++ [x]) W'))
    (W : World) (hBs : W.cell? ⟨Bs, 0, none⟩ = some (.slice (some ⟨b, off, none⟩) len cap)) (hBn : Bs < n₀)
    (hc0 : ∀ j, j < len → W.cell? ⟨b, off + j * 3, none⟩ = some (.string (zs j).1))
    (hc1 : ∀ j, j < len → W.cell? ⟨b, off + j * 3 + 1, none⟩ = some (.int .i64 (zs j).2.1))
    (hc2 : ∀ j, j < len → W.cell? ⟨b, off + j * 3 + 2, none⟩ = some (.int .i64 (zs j).2.2)) (h0 : J [] W) :
    CallsIn F n Tryz.prog 105 #[.func (.yield l) #[] #[], .pointer (some ⟨Bs, 0, none⟩)] W fun e W' => (∃ v, e = .returned v) ∧
      ((∃ ys, ys = Ord.upto (fun j => (len - 1 - j, zs (len - 1 - j))) len ∧ J ys W') ∨ (∃ pre, (∃ k, k ≤ len ∧ pre = Ord.upto (fun j => (len - 1 - j, zs (len - 1 - j))) k) ∧ Jx pre W')) := by
  refine callsIn_of_wp Tryz.func105 rfl h8 ?_ hro
  simp only [Tryz.ntmps105, List.size_toArray, List.length_cons, List.length_nil, Nat.reduceAdd, Nat.reduceSub, Array.replicate_succ, Array.replicate_zero, List.push_toArray, List.append_toArray, List.nil_append, List.cons_append]
  gi_wp2
  gi_loopw [3] (fun i wr => ∃ k q : Nat, q + k = len ∧ i = .int .i64 ((q : Int) - 1) ∧ J (Ord.upto (fun j => (len - 1 - j, zs (len - 1 - j))) k) wr ∧ Below n₀ W wr)
    (fun i _ => (intOf i + 1).toNat)
  case atStart => exact ⟨0, len, by omega, rfl, h0, Below.refl _ _⟩
  case round =>
    obtain ⟨k, q, hk, rfl, hJs, hnx⟩ := hrel
    have hbs : wr.cell? ⟨Bs, 0, none⟩ = some (.slice (some ⟨b, off, none⟩) len cap) := (hnx.cell (p := ⟨Bs, 0, none⟩) hBn).trans hBs
    cases q with
    | zero =>
      obtain rfl : k = len := by omega
      gi_wp2
      go_end0
      exact ⟨⟨_, rfl⟩, .inl ⟨_, rfl, hJs⟩⟩
    | succ p =>
      rw [show (((p + 1 : Nat) : Int) - 1) = (p : Int) from by omega]
      have hp : p < len := by omega
      have hpk : len - 1 - k = p := by omega
      have hq0 : wr.cell? ⟨b, off + p * 3, none⟩ = some (.string (zs p).1) := (hnx.cell (p := ⟨b, off + p * 3, none⟩) hb).trans (hc0 p hp)
      have hq1 : wr.cell? ⟨b, off + p * 3 + 1, none⟩ = some (.int .i64 (zs p).2.1) := (hnx.cell (p := ⟨b, off + p * 3 + 1, none⟩) hb).trans (hc1 p hp)
      have hq2 : wr.cell? ⟨b, off + p * 3 + 2, none⟩ = some (.int .i64 (zs p).2.2) := (hnx.cell (p := ⟨b, off + p * 3 + 2, none⟩) hb).trans (hc2 p hp)
      obtain ⟨fn, tmps, assign, body, hy, hR⟩ := hY _ (p, zs p) wr hJs (by rw [Ord.upto_length]; omega)
      dsimp only [Ord.enc] at hy
      gi_wp2
      refine hR.mono ?_
      rintro e W3 (⟨rfl, hJ3, hk3⟩ | ⟨rfl, hJx3⟩)
      · gi_wp2
        go_roundw
        case rel => exact ⟨k + 1, p, by omega, by simp, by rw [Ord.upto_succ, hpk]; exact hJ3, hnx.trans hk3⟩
        case measure => (simp [intOf])
      · gi_wp2
        refine bodyPost_ret (results_none rfl _ _ _) rfl ?_
        exact ⟨⟨_, rfl⟩, .inr ⟨_, ⟨k + 1, by omega, by rw [Ord.upto_succ, hpk]⟩, hJx3⟩⟩
set_option maxRecDepth 100000 in
set_option maxHeartbeats 1000000 in
theorem Ord.back1_nil_in (F : Fence) (n : Nat) (h8 : F.fn 105) (hro : F.round = none) (l Bs : Nat) (J : List (Nat × D3) → World → Prop) (W : World) (hBs : W.cell? ⟨Bs, 0, none⟩ = some (.slice none 0 0)) (h0 : J [] W) :
    CallsIn F n Tryz.prog 105 #[.func (.yield l) #[] #[], .pointer (some ⟨Bs, 0, none⟩)] W fun e W' => (∃ v, e = .returned v) ∧ J [] W' := by
  refine callsIn_of_wp Tryz.func105 rfl h8 ?_ hro
  simp only [Tryz.ntmps105, List.size_toArray, List.length_cons, List.length_nil, Nat.reduceAdd, Nat.reduceSub, Array.replicate_succ, Array.replicate_zero, List.push_toArray, List.append_toArray, List.nil_append, List.cons_append]
  gi_wp2
  gi_loopw [3] (fun i wr => i = .int .i64 (-1) ∧ J [] wr) (fun _ _ => 0)
  case atStart => exact ⟨rfl, h0⟩
  case round =>
    obtain ⟨rfl, hJs⟩ := hrel
    gi_wp2
    go_end0
    exact ⟨⟨_, rfl⟩, hJs⟩
set_option maxHeartbeats 1000000 in
theorem Ord.back_in (F : Fence) (n : Nat) (h6 : F.fn 79) (hro : F.round = none) (a : Option Addr) (len cap : Nat) (w : World) :
    CallsIn F n Tryz.prog 79 #[.slice a len cap] w fun e w' => e = .returned (.func (.func 105) #[] #[.pointer (some ⟨w.heap.size, 0, none⟩)]) ∧ w' = w.alloc (.cells #[.slice a len cap] 29) := by
  refine callsIn_of_wp Tryz.func79 rfl h6 ?_ hro
  simp only [Tryz.ntmps79, List.size_toArray, List.length_cons, List.length_nil, Nat.reduceAdd, Nat.reduceSub, Array.replicate_succ, Array.replicate_zero, List.push_toArray, List.append_toArray, List.nil_append, List.cons_append]
  gi_wp2
  go_ret
  exact ⟨rfl, rfl⟩
theorem Ord.back_stops (F : Fence) (n : Nat) (h8 : F.fn 105) (hro : F.round = none) (hn : 1 ≤ n) (Bs n₀ : Nat) (a : Option Addr) (len cap : Nat) (hcap : a = none → cap = 0) (zs : Nat → D3) (hreach : len ≤ 1099511627776) (w : World) (hBs : Bs < w.heap.size) (hBn : Bs < n₀) (hn₀ : n₀ ≤ w.heap.size)
    (hc : w.cell? ⟨Bs, 0, none⟩ = some (.slice a len cap)) (hI : Decls n₀ w a len zs) :
    SeqStopsK F n Tryz.prog 105 #[.pointer (some ⟨Bs, 0, none⟩)] (fun x : Nat × D3 => #[Value.int .i64 (x.1 : Int), Ord.enc x.2]) (Below n₀) (fun ys => ys = Ord.upto (fun j => (len - 1 - j, zs (len - 1 - j))) len)
      (fun pre => ∃ k, k ≤ len ∧ pre = Ord.upto (fun j => (len - 1 - j, zs (len - 1 - j))) k) len w := fun l J Jx W hW _ _ hY h0 => by
  have hc' := (hW.cell (p := ⟨Bs, 0, none⟩) hBs).trans hc
  rcases hI.below (hW.mono hn₀) with ⟨rfl, rfl⟩ | ⟨b, off, rfl, hb, hcs0, hcs1, hcs2⟩
  · have := hcap rfl
    subst this
    exact (Ord.back1_nil_in F n h8 hro l Bs J W hc' h0).mono fun e W' ⟨he, hj⟩ => ⟨he, .inl ⟨_, rfl, hj⟩⟩
  · exact Ord.back1_in F n h8 hro hn l Bs n₀ b off len cap zs hreach hb J Jx hY W hc' hBn hcs0 hcs1 hcs2 h0
set_option maxRecDepth 100000 in
set_option maxHeartbeats 4000000 in
theorem Ord.order_in (F : Fence) (n : Nat) (h4 : F.fn 44) (h6 : F.fn 79) (h8 : F.fn 105) (hro : F.round = none) (hn : 3 ≤ n) (a : Option Addr) (len cap : Nat) (hcap : a = none → cap = 0) (nm : ByteArray) (zs : Nat → D3) (hreach : len ≤ 1099511627776) (w : World) (hI : Decls w.heap.size w a len zs) :
    CallsIn F n Tryz.prog 44 #[.slice a len cap, .string nm] w fun e W' =>
      OrderSays zs len nm e ∧ Below w.heap.size w W' := by
  have h1 : 1 ≤ n := by omega
  refine callsIn_of_wp_marks Tryz.func44 rfl h4 ?_ hro
  simp only [Tryz.ntmps44, List.size_toArray, List.length_cons, List.length_nil, Nat.reduceAdd, Nat.reduceSub, Array.replicate_succ, Array.replicate_zero, List.push_toArray, List.append_toArray, List.nil_append, List.cons_append]
  gi_wp2_with (gi_at_call 79; refine (Ord.back_in F (n - 1) h6 hro _ _ _ _).mono ?_; rintro e w' ⟨rfl, rfl⟩)
  have bM := ((Boxed.new w 9 (.string nm)).alloc (.cells #[.int .i64 0] 3)).alloc (.cells #[.slice a len cap] 29)
  have bR := (Boxed.new (w.alloc (.cells #[.string nm] 9)) 3 (.int .i64 0)).alloc (.cells #[.slice a len cap] 29)
  have bN := Boxed.new ((w.alloc (.cells #[.string nm] 9)).alloc (.cells #[.int .i64 0] 3)) 29 (.slice a len cap)
  simp only [World.size_alloc] at bR bN
  have hB0 : Below w.heap.size w (((w.alloc (.cells #[.string nm] 9)).alloc (.cells #[.int .i64 0] 3)).alloc (.cells #[.slice a len cap] 29)) := (((Below.refl _ w).alloc (Nat.le_refl _) _).alloc (by simp) _).alloc (by simp; omega) _
  have hsz : (((w.alloc (.cells #[.string nm] 9)).alloc (.cells #[.int .i64 0] 3)).alloc (.cells #[.slice a len cap] 29)).heap.size = w.heap.size + 3 := by simp
  obtain ⟨W0, hW0⟩ : ∃ W0, ((w.alloc (.cells #[.string nm] 9)).alloc (.cells #[.int .i64 0] 3)).alloc (.cells #[.slice a len cap] 29) = W0 := ⟨_, rfl⟩
  rw [hW0] at bM bR bN hB0 hsz ⊢
  clear hW0
  refine wpIn_rangeFunc_ownH hro h1 (gf := 105) (lb := #[.pointer (some ⟨w.heap.size + 1 + 1, 0, none⟩)]) rfl h8 (enters_of Tryz.func105 (by kernel_rfl) rfl)
    (Ord.back_stops F (n - 1) h8 hro (by omega) (w.heap.size + 1 + 1) W0.heap.size a len cap hcap zs hreach W0 (by omega) (by omega) (Nat.le_refl _) bN.cell ((hI.below hB0).up (by omega))) belowK_t (belowK_b (by omega)) (Below.refl _ _) (fun _ => rfl)
    (fun pre W => ((∀ p ∈ pre, p.2.1 ≠ nm) ∧ Boxed W (w.heap.size + 1) 3 (.int .i64 0) ∧ Boxed W w.heap.size 9 (.string nm) ∧ Boxed W (w.heap.size + 1 + 1) 29 (.slice a len cap)) ∧ Below w.heap.size w W)
    (fun c pre W => (c = .ret ∧ ∃ ini last, pre = ini ++ [last] ∧ (∀ p ∈ ini, p.2.1 ≠ nm) ∧ last.2.1 = nm ∧ Boxed W (w.heap.size + 1) 3 (.int .i64 last.2.2.1)) ∧ Below w.heap.size w W)
    (OwnFrom.and (Own.from (fun s A B row hs hg hr => ⟨hs.1, boxed_own _ _ (fun (_ : Unit) => Value.int .i64 0) () A B row hs.2.1 hg hr, boxed_own _ _ (fun (_ : Unit) => Value.string nm) () A B row hs.2.2.1 hg hr, boxed_own _ _ (fun (_ : Unit) => Value.slice a len cap) () A B row hs.2.2.2 hg hr⟩) _) (ownFrom_below (Nat.le_refl _) (by omega)))
    (fun c => OwnFrom.and (Own.from (fun s A B row hs hg hr => by obtain ⟨hc, ini, last, e1, e2, e3, e4⟩ := hs; exact ⟨hc, ini, last, e1, e2, e3, boxed_own _ _ (fun (_ : Unit) => Value.int .i64 last.2.2.1) () A B row e4 hg hr⟩) _) (ownFrom_below (Nat.le_refl _) (by omega)))
    ⟨⟨by simp, bR, bM, bN⟩, hB0⟩
    (fun x a' W => ∃ Bx, w.heap.size + 1 < Bx ∧ W.cell? ⟨Bx, 0, none⟩ = some (.string x.2.1) ∧ W.cell? ⟨Bx, 1, none⟩ = some (.int .i64 x.2.2.1) ∧ a' = { tmps := #[.slice a len cap, .string nm, undef, .pointer (some ⟨w.heap.size, 0, none⟩), .pointer (some ⟨w.heap.size + 1, 0, none⟩), undef, .pointer (some ⟨Bx, 0, none⟩), .slice a len cap, .func (.func 105) #[] #[.pointer (some ⟨w.heap.size + 1 + 1, 0, none⟩)], .int .i64 (x.1 : Int), Ord.enc x.2, undef, undef, undef, undef, undef, undef], defers := [] })
    (fun x a' _ X Y row hs hg hr => by obtain ⟨Bx, h1, h2, h3, h4⟩ := hs; exact ⟨Bx, h1, cell_kept h2 hg (fun r e => (hr r e).2), cell_kept h3 hg (fun r e => (hr r e).2), h4⟩)
    ?assign ?body ?done ?stop
  case assign =>
    rintro l pre x W K ⟨⟨hp, bR1, bM1, bN1⟩, hB1⟩ hK
    have hsW := hB1.size
    have hW0 : W0.heap.size ≤ W.heap.size := by have := bN1.lt; omega
    obtain ⟨i, s, o, q⟩ := x
    dsimp only [Ord.enc] at hK ⊢
    gi_wp2
    have c0 : (W.alloc (.cells #[.string s, .int .i64 o, .int .i64 q] 86)).cell? ⟨W.heap.size, 0, none⟩ = some (.string s) := by simp [go_sem]
    have c1 : (W.alloc (.cells #[.string s, .int .i64 o, .int .i64 q] 86)).cell? ⟨W.heap.size, 1, none⟩ = some (.int .i64 o) := by simp [go_sem]
    exact hK _ _ ((KeepsOthers.alloc _ _).from _) ((Below.refl _ W).alloc hW0 _) ⟨⟨hp, bR1.alloc _, bM1.alloc _, bN1.alloc _⟩, hB1.alloc hsW _⟩ ⟨W.heap.size, by omega, c0, c1, rfl⟩
  case body =>
    rintro l pre x a' W hl ⟨r, hr⟩ ⟨⟨hp, bR1, bM1, bN1⟩, hB1⟩ ⟨Bx, hBx, c0, c1, rfl⟩ hlt
    have cM := bM1.cell
    have cR := bR1.cell
    have fR := bR1.frozen
    obtain ⟨i, s, o, q⟩ := x
    dsimp only [Ord.enc] at c0 c1 ⊢
    gi_wp2
    · have hx : s = nm := toList_inj (eq_of_beq (by assumption))
      exact ⟨(KeepsOthers.setCell _ _ _).from _, ⟨rfl, pre, (i, s, o, q), rfl, hp, hx, bR1.set _⟩, hB1.setCell (p := ⟨w.heap.size + 1, 0, none⟩) (by simp) _⟩
    · have hx : s ≠ nm := by rintro rfl; simp_all
      exact ⟨KeepsFrom.refl _ _, Below.refl _ _, ⟨fun p hp' => (List.mem_append.1 hp').elim (hp p) (fun e => by simp at e; subst e; exact hx), bR1, bM1, bN1⟩, hB1⟩
  case done =>
    rintro D ys W hD rfl ⟨⟨hne, bR1, bM1, bN1⟩, hB⟩ hK
    have cR := bR1.cell
    have fR := bR1.frozen
    gi_wp2
    have hK' := (KeepsOthers.setCell W ⟨w.heap.size + 1, 0, none⟩ (.int .i64 (-1))).same D _ hK rfl
    refine ⟨by simp, .inl ⟨_, _, rfl, run_takeDeferred hK', ?_⟩⟩
    have hc5 := cell_kept (World.cell?_setCell_same' W ⟨w.heap.size + 1, 0, none⟩ (.int .i64 (-1)) (by rw [cR]; rfl)) (grownBy_putObj' _ D (.deferred none)) (fun r e => by cases e; exact ⟨_, hK', rfl⟩)
    refine ⟨.int .i64 (-1), ?_, .inl ⟨rfl, fun j hj => ?_⟩, (hB.setCell (p := ⟨w.heap.size + 1, 0, none⟩) (by simp) _).trans (belowK_b (w := w) (Nat.le_refl _) _ D _ _ (by omega) hK' rfl rfl)⟩
    · simp [results, Tryz.f44, go_sem, hc5]
    · have := hne (len - 1 - (len - 1 - j), zs (len - 1 - (len - 1 - j))) (by simp only [Ord.upto, List.mem_map, List.mem_range]; exact ⟨len - 1 - j, by omega, rfl⟩)
      rwa [show len - 1 - (len - 1 - j) = j from by omega] at this
  case stop =>
    rintro D c pre W hD ⟨k, hk, rfl⟩ ⟨⟨rfl, ini, last, e1, e2, e3, bR1⟩, hB⟩ hK
    gi_wp2
    refine ⟨by simp, .inl ⟨_, _, rfl, run_takeDeferred hK, ?_⟩⟩
    have hc5 := cell_kept bR1.cell (grownBy_putObj' _ D (.deferred none)) (fun r e => by cases e; exact ⟨_, hK, rfl⟩)
    obtain ⟨k', rfl⟩ : ∃ k', k = k' + 1 := by
      cases k with
      | zero => simp [Ord.upto] at e1
      | succ k' => exact ⟨k', rfl⟩
    rw [Ord.upto_succ] at e1
    obtain ⟨rfl, e5⟩ := List.append_inj' e1 rfl
    obtain rfl : (len - 1 - k', zs (len - 1 - k')) = last := by simpa using e5
    refine ⟨.int .i64 (zs (len - 1 - k')).2.1, ?_, .inr ⟨len - 1 - k', by omega, rfl, e3, fun j hj hl => ?_⟩, hB.trans (belowK_b (w := w) (Nat.le_refl _) W D _ _ (by omega) hK rfl rfl)⟩
    · simp [results, Tryz.f44, go_sem, hc5]
    · have := e2 (len - 1 - (len - 1 - j), zs (len - 1 - (len - 1 - j))) (by simp only [Ord.upto, List.mem_map, List.mem_range]; exact ⟨len - 1 - j, by omega, rfl⟩)
      rwa [show len - 1 - (len - 1 - j) = j from by omega] at this
theorem Ord.answers {vs : List AV} {h : H} {v : AV} {h' : H} (e : natOrder vs h = some (v, h')) : Answers Tryz.prog vs h 44 v h' :=
  natOrder_answers ⟨Tryz.f44, Tryz.f44.body.getD .skip, Tryz.func44, by kernel_rfl, by kernel_rfl⟩ (fun a len cap nm zs w hcap hlen hI =>
    (callsIn_wide (n := 3)).1 (Ord.order_in Fence.wide 3 trivial trivial trivial rfl (Nat.le_refl _) a len cap hcap nm zs hlen w hI)) e
end Go.Proofs
