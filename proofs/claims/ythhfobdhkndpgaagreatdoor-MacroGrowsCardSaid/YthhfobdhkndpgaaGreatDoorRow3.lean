import Derived.Below
import Derived.Test.YthhfobdhkndpgaaGreatDoorRow
set_option linter.all false
/- MacroGrows: the row, out of the law's runs. -/
set_option maxRecDepth 100000
namespace Go.Proofs.YthhfobdhkndpgaaGreatDoor
open Go.ChangeShapes Go.WideShapes Go.ChangeAt Go.RowKit Go.Ev
theorem noStood : HST Tryz.prog := by
  intro t fs ht hso
  have h : t < 184 := by
    have h1 : Nat.ble (t + 1) Tryz.prog.types.size = true := (Bool.and_eq_true_iff.1 hso).1
    have h2 : Tryz.prog.types.size = 184 := by kernel_rfl
    rw [h2] at h1
    exact Nat.lt_of_succ_le (Nat.le_of_ble_eq_true h1)
  have hall : ((List.range 184).all fun t => match Tryz.prog.underlying t with | some (.struct fs) => !structOk Tryz.prog t fs.toList || !Tryz.prog.stoodInHeld t | _ => true) = true := by kernel_rfl
  have := List.all_eq_true.1 hall t (List.mem_range.2 h)
  simp only [ht, hso] at this
  simpa using this
theorem native (f : Nat) (g : List AV → H → R) (e : Go.Ev.look tblA f = some (.inr g)) : ∀ vs h v h', g vs h = some (v, h') → Answers Tryz.prog vs h f v h' := by
  have hm := natsOf_mem tblA 0 f g e
  rw [show natsOf 0 tblA = [44] by kernel_rfl, Nat.zero_add, List.mem_singleton] at hm
  subst hm
  have h4 : Go.Ev.look tblA 44 = some (.inr natOrder) := by kernel_rfl
  rw [h4] at e
  cases e
  exact fun vs h v h' e => Ord.answers e
theorem drawn : Tryz.prog.follows .mixedOrders = true := by kernel_rfl
theorem law (n : Int) (hrun : ∃ h', callS tblS 5000 200 3 [.int .i64 n] utf8H = some (.bool true, h')) {W : World} (hL : laidMetH Tryz.prog laid0 W) :
    Calls Tryz.prog 3 #[.int .i64 n] W (fun e w' => e = .returned (.bool true) ∧ Below W.heap.size W w') := by
  obtain ⟨h', e⟩ := hrun
  obtain ⟨h0, h1⟩ := cells_of hL
  refine (run_start agree noStood drawn native e h0 h1 (.cons _ _ _ _ (.int .i64 n) .nil)).mono ?_
  rintro e w' ⟨φ', u, rfl, hv, hb⟩
  cases hv
  exact ⟨rfl, hb⟩
theorem lifted (hrun : ∀ n : Int, ∃ h', callS tblS 5000 200 3 [.int .i64 n] utf8H = some (.bool true, h')) (os : Os) (started : os.Started) (H : Type) (enc : TypeId × Value → H) :
    ReturnsInHanded {} Tryz.checked os 3 .any (fun w args => (Rows.macroGrowsSpec.pre enc Tryz.prog Tryz.f3 [] false w args ∧ laidMetH Tryz.prog laid0 w) ∧ sizedMet enc Tryz.prog Tryz.f3 (OpenSpec.ofChange Rows.macroGrowsSpec) false w args)
      (Rows.macroGrowsSpec.post enc Tryz.prog Tryz.f3 false true false false) := by
  refine returnsInHanded_of_change_and (C := Tryz.checked) (X := fun w _ => laidMetH Tryz.prog laid0 w) (fun _ _ _ hh h => h.of_heap hh) own started (by kernel_rfl) Tryz.func3
    (ChangeSpec.witness_shaped (enc := enc) (C := Tryz.checked) (os := os) (X := fun w _ => laidMetH Tryz.prog laid0 w) false (World.laidAll Tryz.prog os laid0) #[.int .i64 0] 8 (World.laidAll_os _ _ _)
      (World.shaped_of_ZipB (by kernel_rfl) (by kernel_rfl)) (by kernel_rfl) (by kernel_rfl) (by kernel_rfl)
      (by rw [MakeChecks.laidMetH_plain _ _ _ (by kernel_rfl)]; exact laidMet_laidAll _ (by kernel_rfl) (by kernel_rfl))) ?_
  intro W base args ds gs before hval0 hW _ _ hL _
  have hval : ∀ (j : Nat) t v, Tryz.f3.params[j]? = some t → args[j]? = some v → Value.okWide Tryz.prog W .any base t v := hval0
  have hW' := hW
  obtain ⟨p, q, hA0, hV, rfl, _, _⟩ := hW
  have hA : DataW.TrodAll enc Tryz.prog W 0 (fun _ => true) true Tryz.f3.params.toList args.toList ds p := hA0
  rw [Tryz.params3] at hA hval
  obtain ⟨v0, d0, rfl, rfl, h0⟩ := trodAll_one hA
  obtain ⟨rfl, rfl⟩ := trodVars_none hV
  obtain ⟨x, rfl, rfl, rfl, wx⟩ := open_int Tryz.underlying3 (hval 0 3 v0 rfl rfl) h0
  simp only [List.append_nil] at hW'
  refine (law x (hrun x) hL).mono fun e W' ⟨he, hB⟩ => ?_
  subst he
  exact ⟨_, rfl, _, _, _, [], [], [], hW', trodAll_mk1 (shut_bool Tryz.underlying4 _), trodAll_mk1 (shut_int Tryz.underlying3 wx), rfl, hB.frame _, fun h => by cases h⟩
theorem macroGrows_of (hrun : ∀ n : Int, ∃ h', callS tblS 5000 200 3 [.int .i64 n] utf8H = some (.bool true, h')) : Rows.MacroGrowsSaid :=
  OpenClaim.holds_of_wide 3 Tryz.f3 rfl rfl rfl rfl rfl rfl rfl ⟨rfl, rfl, rfl, rfl, rfl⟩ rfl rfl rfl rfl rfl (by kernel_rfl) Tryz.func3 (by kernel_rfl)
    (of_decide_eq_true (by kernel_rfl)) (by unfold Func.isWrapper; first | (rw [if_pos (by decide +kernel)]; kernel_rfl) | (rw [if_neg (by decide +kernel)]; exact ⟨rfl, rfl⟩))
    (fun os started H enc _ => lifted hrun os started H enc)
theorem macroGrowsCard_of (hrun : ∀ n : Int, ∃ h', callS tblS 5000 200 3 [.int .i64 n] utf8H = some (.bool true, h')) : Rows.MacroGrowsCardSaid :=
  Claim7.holds_tied_plain_at .later [] [.data, .pinned] true (true, "cc936e666759774a460bba90766a73766e2741e95f8099dfa0499751c58310bf") false (macroGrows_of hrun) (fun _ h => by cases h) (by kernel_rfl) (fun _ h => by cases h) macroGrows_row_tie rfl ⟨rfl, rfl⟩ (by kernel_rfl) rfl
    (fun f fn hf hfn => by
      obtain rfl : f = 3 := Option.some.inj ((show Tryz.prog.funcNamed "sibyl/sibyllaw8.MacroGrows" = some 3 by kernel_rfl).symm.trans hf) |>.symm
      obtain rfl : fn = Tryz.f3 := (Option.some.inj (Tryz.func3.symm.trans hfn)).symm
      exact ⟨by kernel_rfl, fun j t ht => by
        rw [Tryz.params3] at ht
        have hm : t ∈ [3] := by simpa using Array.mem_of_getElem? ht
        have hall : ([3].all fun u => !Tryz.prog.wantsStandIn u) = true := by kernel_rfl
        exact (show Tryz.prog.wantsStandIn t = false by simpa using List.all_eq_true.1 hall t hm)⟩)
    (by kernel_rfl)
end Go.Proofs.YthhfobdhkndpgaaGreatDoor
