/- The program's function that writes the verbs 9 to 14 returns, and leaves the block as the relation VStep says; for every block of 144 cells. -/
import Derived.Test.YtciljkcicfphdaaGreatDoorVA
namespace Go.Proofs.YtciljkcicfphdaaGreatDoor
open Go.RowKit
set_option maxRecDepth 100000 in
set_option maxHeartbeats 8000000 in
theorem houses_any (g : Nat) (w : World) (ht : w.there g 0 144) : Calls Tryz.prog 32 #[.pointer (some ⟨g, 0, none⟩)] w fun e w' => (∃ v, e = .returned v) ∧ VStep w w' g 9 15 := by
  have HV := VStep.refl (a := 9) ht
  go_enter Tryz.func32, Tryz.ntmps32
  go_upto_region 0 with fail
  go_cut [] (fun wx => VStep w wx g 9 10)
  case first =>
    have hth := there6 HV.there (v := 9) (by omega)
    refine wp_region_any (by kernel_rfl) ?_
    change wpAny _ _ _ _ _ _ _ (World.drew _)
    refine wpAny_take (i := 0) (v := ?_) rfl (by kernel_rfl) (by kernel_rfl) (by kernel_rfl) (fun _ _ _ h => h) (Or.inl ⟨by rfl, ?_⟩) ?_
    rotate_left 1
    · intro w
      go_simp
      with_reducible rfl
    refine wpAny_take (i := 4) (v := ?_) rfl (by kernel_rfl) (by kernel_rfl) (by kernel_rfl) (fun _ _ _ h => h) (Or.inl ⟨by rfl, ?_⟩) ?_
    rotate_left 1
    · intro w
      go_simp
      with_reducible rfl
    refine wpAny_ready (rs := [1, 2]) (by kernel_rfl) (by simp) ?_
    refine AllReady.cons rfl (fun K hK => ?_) (AllReady.cons rfl (fun K hK => ?_) AllReady.nil)
    · go_simp
      go_wp2_with (go_at_call 41; refine (exactly_any 5 _).mono ?_; rintro e w' ⟨rfl, rfl⟩)
      refine wpAny_ready (rs := [2]) (by kernel_rfl) (by simp) ?_
      refine AllReady.cons rfl (fun K hK => ?_) AllReady.nil
      go_simp
      refine hK _ _ ?_
      clear hK K
      refine wpAny_take (i := 3) (v := ?_) rfl (by kernel_rfl) (by kernel_rfl) (by kernel_rfl) (fun _ _ _ h => h) (Or.inl ⟨by rfl, ?_⟩) ?_
      rotate_left 1
      · intro w
        go_simp
        with_reducible rfl
      refine wpAny_take (i := 5) (v := ?_) rfl (by kernel_rfl) (by kernel_rfl) (by kernel_rfl) (fun _ _ _ h => h) (Or.inl ⟨by rfl, ?_⟩) ?_
      rotate_left 1
      · intro w
        go_simp
        with_reducible rfl
      refine wpAny_ready (rs := [6]) (by kernel_rfl) (by simp) ?_
      refine AllReady.cons rfl (fun K hK => ?_) AllReady.nil
      refine step_store_mid rfl 46 (.tmp 7) (.tmp 5) rfl g 54 _ rfl rfl (World.there_alloc (World.there_alloc ((World.there_drew _ _ _ _).2 hth) _) _) info46 (by kernel_rfl) ?_
      refine hK _ _ ?_
      clear hK K
      refine wpAny_done (by kernel_rfl) ?_ _
      go_wp2_with fail
      go_meet
      exact (((HV.drew.alloc _).alloc _).set (v := 9) (by omega) (by omega) _ _ rfl rfl)
    · go_simp
      refine hK _ _ ?_
      clear hK K
      refine wpAny_ready (rs := [1]) (by kernel_rfl) (by simp) ?_
      refine AllReady.cons rfl (fun K hK => ?_) AllReady.nil
      go_simp
      go_wp2_with (go_at_call 41; refine (exactly_any 5 _).mono ?_; rintro e w' ⟨rfl, rfl⟩)
      refine wpAny_take (i := 3) (v := ?_) rfl (by kernel_rfl) (by kernel_rfl) (by kernel_rfl) (fun _ _ _ h => h) (Or.inl ⟨by rfl, ?_⟩) ?_
      rotate_left 1
      · intro w
        go_simp
        with_reducible rfl
      refine wpAny_take (i := 5) (v := ?_) rfl (by kernel_rfl) (by kernel_rfl) (by kernel_rfl) (fun _ _ _ h => h) (Or.inl ⟨by rfl, ?_⟩) ?_
      rotate_left 1
      · intro w
        go_simp
        with_reducible rfl
      refine wpAny_ready (rs := [6]) (by kernel_rfl) (by simp) ?_
      refine AllReady.cons rfl (fun K hK => ?_) AllReady.nil
      refine step_store_mid rfl 46 (.tmp 7) (.tmp 5) rfl g 54 _ rfl rfl (World.there_alloc (World.there_alloc ((World.there_drew _ _ _ _).2 hth) _) _) info46 (by kernel_rfl) ?_
      refine hK _ _ ?_
      clear hK K
      refine wpAny_done (by kernel_rfl) ?_ _
      go_wp2_with fail
      go_meet
      exact (((HV.drew.alloc _).alloc _).set (v := 9) (by omega) (by omega) _ _ rfl rfl)
  case rest =>
    clear HV
    have HV := hcut
    clear hcut
    go_upto_region 1 with fail
    go_cut [] (fun wx => VStep w wx g 9 11)
    case first =>
      have hth := there6 HV.there (v := 10) (by omega)
      go_wp2_with (refine wpList_store_mid rfl 46 (.tmp 13) (.tmp 11) rfl g 60 _ rfl rfl (World.there_alloc hth _) info46 (by kernel_rfl) ?_)
      go_meet
      exact ((HV.alloc _).set (v := 10) (by omega) (by omega) _ _ rfl rfl)
    case rest =>
      clear HV
      have HV := hcut
      clear hcut
      go_upto_region 2 with fail
      go_cut [] (fun wx => VStep w wx g 9 12)
      case first =>
        have hth := there6 HV.there (v := 11) (by omega)
        refine wp_region_any (by kernel_rfl) ?_
        change wpAny _ _ _ _ _ _ _ (World.drew _)
        refine wpAny_take (i := 0) (v := ?_) rfl (by kernel_rfl) (by kernel_rfl) (by kernel_rfl) (fun _ _ _ h => h) (Or.inl ⟨by rfl, ?_⟩) ?_
        rotate_left 1
        · intro w
          go_simp
          with_reducible rfl
        refine wpAny_take (i := 4) (v := ?_) rfl (by kernel_rfl) (by kernel_rfl) (by kernel_rfl) (fun _ _ _ h => h) (Or.inl ⟨by rfl, ?_⟩) ?_
        rotate_left 1
        · intro w
          go_simp
          with_reducible rfl
        refine wpAny_ready (rs := [1, 2]) (by kernel_rfl) (by simp) ?_
        refine AllReady.cons rfl (fun K hK => ?_) (AllReady.cons rfl (fun K hK => ?_) AllReady.nil)
        · go_simp
          go_wp2_with (go_at_call 41; refine (exactly_any 1 _).mono ?_; rintro e w' ⟨rfl, rfl⟩)
          refine wpAny_ready (rs := [2]) (by kernel_rfl) (by simp) ?_
          refine AllReady.cons rfl (fun K hK => ?_) AllReady.nil
          go_simp
          refine hK _ _ ?_
          clear hK K
          refine wpAny_take (i := 3) (v := ?_) rfl (by kernel_rfl) (by kernel_rfl) (by kernel_rfl) (fun _ _ _ h => h) (Or.inl ⟨by rfl, ?_⟩) ?_
          rotate_left 1
          · intro w
            go_simp
            with_reducible rfl
          refine wpAny_take (i := 5) (v := ?_) rfl (by kernel_rfl) (by kernel_rfl) (by kernel_rfl) (fun _ _ _ h => h) (Or.inl ⟨by rfl, ?_⟩) ?_
          rotate_left 1
          · intro w
            go_simp
            with_reducible rfl
          refine wpAny_ready (rs := [6]) (by kernel_rfl) (by simp) ?_
          refine AllReady.cons rfl (fun K hK => ?_) AllReady.nil
          refine step_store_mid rfl 46 (.tmp 19) (.tmp 17) rfl g 66 _ rfl rfl (World.there_alloc (World.there_alloc ((World.there_drew _ _ _ _).2 hth) _) _) info46 (by kernel_rfl) ?_
          refine hK _ _ ?_
          clear hK K
          refine wpAny_done (by kernel_rfl) ?_ _
          go_wp2_with fail
          go_meet
          exact (((HV.drew.alloc _).alloc _).set (v := 11) (by omega) (by omega) _ _ rfl rfl)
        · go_simp
          refine hK _ _ ?_
          clear hK K
          refine wpAny_ready (rs := [1]) (by kernel_rfl) (by simp) ?_
          refine AllReady.cons rfl (fun K hK => ?_) AllReady.nil
          go_simp
          go_wp2_with (go_at_call 41; refine (exactly_any 1 _).mono ?_; rintro e w' ⟨rfl, rfl⟩)
          refine wpAny_take (i := 3) (v := ?_) rfl (by kernel_rfl) (by kernel_rfl) (by kernel_rfl) (fun _ _ _ h => h) (Or.inl ⟨by rfl, ?_⟩) ?_
          rotate_left 1
          · intro w
            go_simp
            with_reducible rfl
          refine wpAny_take (i := 5) (v := ?_) rfl (by kernel_rfl) (by kernel_rfl) (by kernel_rfl) (fun _ _ _ h => h) (Or.inl ⟨by rfl, ?_⟩) ?_
          rotate_left 1
          · intro w
            go_simp
            with_reducible rfl
          refine wpAny_ready (rs := [6]) (by kernel_rfl) (by simp) ?_
          refine AllReady.cons rfl (fun K hK => ?_) AllReady.nil
          refine step_store_mid rfl 46 (.tmp 19) (.tmp 17) rfl g 66 _ rfl rfl (World.there_alloc (World.there_alloc ((World.there_drew _ _ _ _).2 hth) _) _) info46 (by kernel_rfl) ?_
          refine hK _ _ ?_
          clear hK K
          refine wpAny_done (by kernel_rfl) ?_ _
          go_wp2_with fail
          go_meet
          exact (((HV.drew.alloc _).alloc _).set (v := 11) (by omega) (by omega) _ _ rfl rfl)
      case rest =>
        clear HV
        have HV := hcut
        clear hcut
        go_upto_region 3 with fail
        go_cut [] (fun wx => VStep w wx g 9 13)
        case first =>
          have hth := there6 HV.there (v := 12) (by omega)
          refine wp_region_any (by kernel_rfl) ?_
          change wpAny _ _ _ _ _ _ _ (World.drew _)
          refine wpAny_take (i := 0) (v := ?_) rfl (by kernel_rfl) (by kernel_rfl) (by kernel_rfl) (fun _ _ _ h => h) (Or.inl ⟨by rfl, ?_⟩) ?_
          rotate_left 1
          · intro w
            go_simp
            with_reducible rfl
          refine wpAny_take (i := 4) (v := ?_) rfl (by kernel_rfl) (by kernel_rfl) (by kernel_rfl) (fun _ _ _ h => h) (Or.inl ⟨by rfl, ?_⟩) ?_
          rotate_left 1
          · intro w
            go_simp
            with_reducible rfl
          refine wpAny_ready (rs := [1, 2]) (by kernel_rfl) (by simp) ?_
          refine AllReady.cons rfl (fun K hK => ?_) (AllReady.cons rfl (fun K hK => ?_) AllReady.nil)
          · go_simp
            go_wp2_with (go_at_call 41; refine (exactly_any 1 _).mono ?_; rintro e w' ⟨rfl, rfl⟩)
            refine wpAny_ready (rs := [2]) (by kernel_rfl) (by simp) ?_
            refine AllReady.cons rfl (fun K hK => ?_) AllReady.nil
            go_simp
            refine hK _ _ ?_
            clear hK K
            refine wpAny_take (i := 3) (v := ?_) rfl (by kernel_rfl) (by kernel_rfl) (by kernel_rfl) (fun _ _ _ h => h) (Or.inl ⟨by rfl, ?_⟩) ?_
            rotate_left 1
            · intro w
              go_simp
              with_reducible rfl
            refine wpAny_take (i := 5) (v := ?_) rfl (by kernel_rfl) (by kernel_rfl) (by kernel_rfl) (fun _ _ _ h => h) (Or.inl ⟨by rfl, ?_⟩) ?_
            rotate_left 1
            · intro w
              go_simp
              with_reducible rfl
            refine wpAny_ready (rs := [6]) (by kernel_rfl) (by simp) ?_
            refine AllReady.cons rfl (fun K hK => ?_) AllReady.nil
            refine step_store_mid rfl 46 (.tmp 25) (.tmp 23) rfl g 72 _ rfl rfl (World.there_alloc (World.there_alloc ((World.there_drew _ _ _ _).2 hth) _) _) info46 (by kernel_rfl) ?_
            refine hK _ _ ?_
            clear hK K
            refine wpAny_done (by kernel_rfl) ?_ _
            go_wp2_with fail
            go_meet
            exact (((HV.drew.alloc _).alloc _).set (v := 12) (by omega) (by omega) _ _ rfl rfl)
          · go_simp
            refine hK _ _ ?_
            clear hK K
            refine wpAny_ready (rs := [1]) (by kernel_rfl) (by simp) ?_
            refine AllReady.cons rfl (fun K hK => ?_) AllReady.nil
            go_simp
            go_wp2_with (go_at_call 41; refine (exactly_any 1 _).mono ?_; rintro e w' ⟨rfl, rfl⟩)
            refine wpAny_take (i := 3) (v := ?_) rfl (by kernel_rfl) (by kernel_rfl) (by kernel_rfl) (fun _ _ _ h => h) (Or.inl ⟨by rfl, ?_⟩) ?_
            rotate_left 1
            · intro w
              go_simp
              with_reducible rfl
            refine wpAny_take (i := 5) (v := ?_) rfl (by kernel_rfl) (by kernel_rfl) (by kernel_rfl) (fun _ _ _ h => h) (Or.inl ⟨by rfl, ?_⟩) ?_
            rotate_left 1
            · intro w
              go_simp
              with_reducible rfl
            refine wpAny_ready (rs := [6]) (by kernel_rfl) (by simp) ?_
            refine AllReady.cons rfl (fun K hK => ?_) AllReady.nil
            refine step_store_mid rfl 46 (.tmp 25) (.tmp 23) rfl g 72 _ rfl rfl (World.there_alloc (World.there_alloc ((World.there_drew _ _ _ _).2 hth) _) _) info46 (by kernel_rfl) ?_
            refine hK _ _ ?_
            clear hK K
            refine wpAny_done (by kernel_rfl) ?_ _
            go_wp2_with fail
            go_meet
            exact (((HV.drew.alloc _).alloc _).set (v := 12) (by omega) (by omega) _ _ rfl rfl)
        case rest =>
          clear HV
          have HV := hcut
          clear hcut
          go_upto_region 4 with fail
          go_cut [] (fun wx => VStep w wx g 9 14)
          case first =>
            have hth := there6 HV.there (v := 13) (by omega)
            go_wp2_with (refine wpList_store_mid rfl 46 (.tmp 31) (.tmp 29) rfl g 78 _ rfl rfl (World.there_alloc hth _) info46 (by kernel_rfl) ?_)
            go_meet
            exact ((HV.alloc _).set (v := 13) (by omega) (by omega) _ _ rfl rfl)
          case rest =>
            clear HV
            have HV := hcut
            clear hcut
            go_upto_region 5 with fail
            have hth := there6 HV.there (v := 14) (by omega)
            refine wp_region_any (by kernel_rfl) ?_
            change wpAny _ _ _ _ _ _ _ (World.drew _)
            refine wpAny_take (i := 0) (v := ?_) rfl (by kernel_rfl) (by kernel_rfl) (by kernel_rfl) (fun _ _ _ h => h) (Or.inl ⟨by rfl, ?_⟩) ?_
            rotate_left 1
            · intro w
              go_simp
              with_reducible rfl
            refine wpAny_take (i := 4) (v := ?_) rfl (by kernel_rfl) (by kernel_rfl) (by kernel_rfl) (fun _ _ _ h => h) (Or.inl ⟨by rfl, ?_⟩) ?_
            rotate_left 1
            · intro w
              go_simp
              with_reducible rfl
            refine wpAny_ready (rs := [1, 2]) (by kernel_rfl) (by simp) ?_
            refine AllReady.cons rfl (fun K hK => ?_) (AllReady.cons rfl (fun K hK => ?_) AllReady.nil)
            · go_simp
              go_wp2_with (go_at_call 41; refine (exactly_any 3 _).mono ?_; rintro e w' ⟨rfl, rfl⟩)
              refine wpAny_ready (rs := [2]) (by kernel_rfl) (by simp) ?_
              refine AllReady.cons rfl (fun K hK => ?_) AllReady.nil
              go_simp
              refine hK _ _ ?_
              clear hK K
              refine wpAny_take (i := 3) (v := ?_) rfl (by kernel_rfl) (by kernel_rfl) (by kernel_rfl) (fun _ _ _ h => h) (Or.inl ⟨by rfl, ?_⟩) ?_
              rotate_left 1
              · intro w
                go_simp
                with_reducible rfl
              refine wpAny_take (i := 5) (v := ?_) rfl (by kernel_rfl) (by kernel_rfl) (by kernel_rfl) (fun _ _ _ h => h) (Or.inl ⟨by rfl, ?_⟩) ?_
              rotate_left 1
              · intro w
                go_simp
                with_reducible rfl
              refine wpAny_ready (rs := [6]) (by kernel_rfl) (by simp) ?_
              refine AllReady.cons rfl (fun K hK => ?_) AllReady.nil
              refine step_store_mid rfl 46 (.tmp 37) (.tmp 35) rfl g 84 _ rfl rfl (World.there_alloc (World.there_alloc ((World.there_drew _ _ _ _).2 hth) _) _) info46 (by kernel_rfl) ?_
              refine hK _ _ ?_
              clear hK K
              refine wpAny_done (by kernel_rfl) ?_ _
              go_wp2_with fail
              go_end0
              exact ⟨⟨_, rfl⟩, (((HV.alloc _).alloc _).drew.set (v := 14) (by omega) (by omega) _ _ rfl rfl)⟩
            · go_simp
              refine hK _ _ ?_
              clear hK K
              refine wpAny_ready (rs := [1]) (by kernel_rfl) (by simp) ?_
              refine AllReady.cons rfl (fun K hK => ?_) AllReady.nil
              go_simp
              go_wp2_with (go_at_call 41; refine (exactly_any 3 _).mono ?_; rintro e w' ⟨rfl, rfl⟩)
              refine wpAny_take (i := 3) (v := ?_) rfl (by kernel_rfl) (by kernel_rfl) (by kernel_rfl) (fun _ _ _ h => h) (Or.inl ⟨by rfl, ?_⟩) ?_
              rotate_left 1
              · intro w
                go_simp
                with_reducible rfl
              refine wpAny_take (i := 5) (v := ?_) rfl (by kernel_rfl) (by kernel_rfl) (by kernel_rfl) (fun _ _ _ h => h) (Or.inl ⟨by rfl, ?_⟩) ?_
              rotate_left 1
              · intro w
                go_simp
                with_reducible rfl
              refine wpAny_ready (rs := [6]) (by kernel_rfl) (by simp) ?_
              refine AllReady.cons rfl (fun K hK => ?_) AllReady.nil
              refine step_store_mid rfl 46 (.tmp 37) (.tmp 35) rfl g 84 _ rfl rfl (World.there_alloc (World.there_alloc ((World.there_drew _ _ _ _).2 hth) _) _) info46 (by kernel_rfl) ?_
              refine hK _ _ ?_
              clear hK K
              refine wpAny_done (by kernel_rfl) ?_ _
              go_wp2_with fail
              go_end0
              exact ⟨⟨_, rfl⟩, (((HV.alloc _).alloc _).drew.set (v := 14) (by omega) (by omega) _ _ rfl rfl)⟩
end Go.Proofs.YtciljkcicfphdaaGreatDoor
