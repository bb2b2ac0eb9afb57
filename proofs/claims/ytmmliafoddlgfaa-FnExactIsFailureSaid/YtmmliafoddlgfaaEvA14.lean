import Derived.Test.YtmmliafoddlgfaaEvA13
set_option linter.unusedSimpArgs false
set_option linter.unusedVariables false
set_option linter.unnecessarySimpa false
namespace Go.Proofs
open Go.Ev
noncomputable def C80 : List AV → Option AV := specO (X := THeap × Int × Unit) fun x => spec_l8Free x.1 x.2.1
theorem C80_eq {h_ a_} {y} (h : spec_l8Free h_ a_ = some y) : C80 [av .own h_, av .own a_] = some (Res.res y) := specO_eq (X := THeap × Int × Unit) (F := fun x => spec_l8Free x.1 x.2.1) (x := (h_, a_, ())) h
noncomputable def g80 : Cfg := { P := Try.prog, take := [], keep := [], gho := [((80, 4), [.thaw (.at 2 0) 1032 1]), ((80, 2000004), [.frz (.at 2 0)])], ctx := [(79, C79), (95, C95), (96, C96)] }
@[simp] theorem g80_P : g80.P = Try.prog := rfl
@[simp] theorem g80_t : g80.take = [] := rfl
@[simp] theorem g80_g : g80.gho = [((80, 4), [.thaw (.at 2 0) 1032 1]), ((80, 2000004), [.frz (.at 2 0)])] := rfl
@[simp] theorem g80_r : g80.ro = [] := rfl
@[simp] theorem g80_w : g80.away = [] ∧ g80.give = [] ∧ g80.octx = [] := by rw [g80]; exact ⟨rfl, rfl, rfl⟩
@[simp] theorem g80_79 : lookN 79 g80.ctx = some C79 := rfl
@[simp] theorem g80_95 : lookN 95 g80.ctx = some C95 := rfl
@[simp] theorem g80_96 : lookN 96 g80.ctx = some C96 := rfl
set_option maxHeartbeats 4000000 in
set_option maxRecDepth 100000 in
theorem w80 {h_ a_} {y} (hp : spec_l8Free h_ a_ = some y) : ∃ m, callo g80 0 80 [av .own h_, av .own a_] mem0 = some (Res.res y, m) := by
  refine start_fn (Try.f80.body.getD .skip) [.cell 4 38, .tmp 5] rfl rfl Try.func80 (by kernel_rfl) (by kernel_rfl) (by simp [Try.ntmps80]) rfl ?_
  unfold spec_l8Free at hp
  obtain ⟨e_1, h_2, hp⟩ := bind_some hp
  have b_3 := at_lo h_2
  have b_4 := at_hi h_2
  try simp at b_3
  try simp at b_4
  have c_5 := seg_at' h_2 0 1 (by decide) (ds := [.sc (.int .i64 e_1)]) rfl
  try simp at c_5
  obtain ⟨y_6, h_7, hp⟩ := bind_some hp
  have c_8 := C95_eq h_7
  simp at c_8
  simp [Try.f80, b_3, b_4, c_5, c_8]
  rcases cond_cases hp with ⟨h_9, hp⟩ | ⟨h_9, hp⟩
  · try simp at h_9
    cases hp
    simp [Goal, FnEnd, retR, rsrc, RSrc.val, nodupR, nodup, tupPart, h_9]
  · try simp at h_9
    obtain ⟨y_10, h_11, hp⟩ := bind_some hp
    have c_12 := C79_eq h_11
    simp at c_12
    try simp [h_9, c_12]
    rcases cond_cases hp with ⟨h_13, hp⟩ | ⟨h_13, hp⟩
    · try simp at h_13
      cases hp
      simp [Goal, FnEnd, retR, rsrc, RSrc.val, nodupR, nodup, tupPart, h_9, h_13]
    · try simp at h_13
      try simp [h_9, h_13]
      obtain ⟨e_14, h_15, hp⟩ := bind_some hp
      cases Option.some.inj (h_2.symm.trans h_15)
      have b_16 := at_lo h_2
      have b_17 := at_hi h_2
      try simp at b_16
      try simp at b_17
      have c_18 := splice_row h_2 0 (-1) [(.s (.int .i64 (-1)))] (by simp) rfl
      try simp at c_18
      have l_19 := row_room h_2 0 (m := 1) (by decide)
      try simp at l_19
      obtain ⟨y_20, h_21, hp⟩ := bind_some hp
      have c_22 := C96_eq h_21
      simp at c_22
      cases hp
      simp [Goal, FnEnd, retR, rsrc, RSrc.val, nodupR, nodup, tupPart, h_9, h_13, b_16, b_17, c_18, l_19, c_22]
theorem po80 : PO Try.prog 80 C80 := po_of (g := g80) (ctxOK_of [(79, C79), (95, C95), (96, C96)] rfl ⟨pc79, pc95, pc96, trivial⟩) rfl fun x y h => w80 h

noncomputable def C52 : List AV → Option AV := specO (X := TStmt × THeap × Int × Int × Unit) fun x => spec_l8Do x.1 x.2.1 x.2.2.1 x.2.2.2.1
theorem C52_eq {s h_ a_ b_} {y} (h : spec_l8Do s h_ a_ b_ = some y) : C52 [av .own s, av .own h_, av .own a_, av .own b_] = some (Res.res y) := specO_eq (X := TStmt × THeap × Int × Int × Unit) (F := fun x => spec_l8Do x.1 x.2.1 x.2.2.1 x.2.2.2.1) (x := (s, h_, a_, b_, ())) h
noncomputable def g52 : Cfg := { P := Try.prog, take := [(52, 30), (52, 101), (52, 102), (52, 107), (52, 109)], keep := [], gho := [((52, 3), [.thaw (.at 5 0) 1080 1]), ((52, 5), [.thaw (.at 5 0) 1080 1]), ((52, 8), [.thaw (.at 5 0) 1080 1]), ((52, 10), [.thaw (.at 5 0) 1080 1]), ((52, 12), [.thaw (.at 5 1) 1081 1]), ((52, 16), [.thaw (.at 5 1) 1081 1]), ((52, 2000003), [.frz (.at 5 0)]), ((52, 2000005), [.frz (.at 5 0)]), ((52, 2000008), [.frz (.at 5 0)]), ((52, 2000010), [.frz (.at 5 0)]), ((52, 2000012), [.frz (.at 5 1)]), ((52, 2000016), [.frz (.at 5 1)])], ctx := [(78, C78), (79, C79)], give := [(52, 104)], octx := [(80, C80)] }
@[simp] theorem g52_P : g52.P = Try.prog := rfl
@[simp] theorem g52_t : g52.take = [(52, 30), (52, 101), (52, 102), (52, 107), (52, 109)] := rfl
@[simp] theorem g52_g : g52.gho = [((52, 3), [.thaw (.at 5 0) 1080 1]), ((52, 5), [.thaw (.at 5 0) 1080 1]), ((52, 8), [.thaw (.at 5 0) 1080 1]), ((52, 10), [.thaw (.at 5 0) 1080 1]), ((52, 12), [.thaw (.at 5 1) 1081 1]), ((52, 16), [.thaw (.at 5 1) 1081 1]), ((52, 2000003), [.frz (.at 5 0)]), ((52, 2000005), [.frz (.at 5 0)]), ((52, 2000008), [.frz (.at 5 0)]), ((52, 2000010), [.frz (.at 5 0)]), ((52, 2000012), [.frz (.at 5 1)]), ((52, 2000016), [.frz (.at 5 1)])] := rfl
@[simp] theorem g52_r : g52.ro = [] := rfl
@[simp] theorem g52_w : g52.away = [] ∧ g52.give = [(52, 104)] ∧ g52.octx = [(80, C80)] := by rw [g52]; exact ⟨rfl, rfl, rfl⟩
@[simp] theorem g52_78 : lookN 78 g52.ctx = some C78 := rfl
@[simp] theorem g52_79 : lookN 79 g52.ctx = some C79 := rfl
set_option maxHeartbeats 4000000 in
set_option maxRecDepth 100000 in
theorem w52 {s h_ a_ b_} {y} (hp : spec_l8Do s h_ a_ b_ = some y) : ∃ m, callo g52 0 52 [av .own s, av .own h_, av .own a_, av .own b_] mem0 = some (Res.res y, m) := by
  refine start_fn (Try.f52.body.getD .skip) [.cell 8 38, .tmp 9] rfl rfl Try.func52 (by kernel_rfl) (by kernel_rfl) (by simp [Try.ntmps52]) rfl ?_
  unfold spec_l8Do at hp
  simp [Try.f52]
  rcases cond_cases hp with ⟨h_1, hp⟩ | ⟨h_1, hp⟩
  · try simp at h_1
    try simp [h_1]
    obtain ⟨e_2, h_3, hp⟩ := bind_some hp
    have b_4 := at_lo h_3
    have b_5 := at_hi h_3
    try simp at b_4
    try simp at b_5
    have c_6 := splice_row h_3 0 (-1) [(.s (.int .i64 (-1)))] (by simp) rfl
    try simp at c_6
    have l_7 := row_room h_3 0 (m := 1) (by decide)
    try simp at l_7
    cases hp
    simp [Goal, FnEnd, retR, rsrc, RSrc.val, nodupR, nodup, tupPart, h_1, b_4, b_5, c_6, l_7]
  · try simp at h_1
    try simp [h_1]
    rcases cond_cases hp with ⟨h_8, hp⟩ | ⟨h_8, hp⟩
    · try simp at h_8
      try simp [h_1, h_8]
      obtain ⟨e_9, h_10, hp⟩ := bind_some hp
      have b_11 := at_lo h_10
      have b_12 := at_hi h_10
      try simp at b_11
      try simp at b_12
      have c_13 := splice_row h_10 0 (h_.next.length : Int) [(.s (.int .i64 (h_.next.length : Int)))] (by simp) rfl
      try simp at c_13
      have l_14 := row_room h_10 0 (m := 1) (by decide)
      try simp at l_14
      obtain ⟨_, h_15, hp⟩ := bind_some hp
      have b_16 := room_ok h_15
      try simp at b_16
      cases hp
      simp [Goal, FnEnd, retR, rsrc, RSrc.val, nodupR, nodup, tupPart, h_1, h_8, b_11, b_12, c_13, l_14, b_16]
    · try simp at h_8
      try simp [h_1, h_8]
      rcases cond_cases hp with ⟨h_17, hp⟩ | ⟨h_17, hp⟩
      · try simp at h_17
        try simp [h_1, h_8, h_17]
        obtain ⟨e_18, h_19, hp⟩ := bind_some hp
        have b_20 := at_lo h_19
        have b_21 := at_hi h_19
        try simp at b_20
        try simp at b_21
        have c_22 := seg_row h_19 0 1 (by decide) (ds := [.sc (.int .i64 e_18)]) rfl
        try simp at c_22
        obtain ⟨e_23, h_24, hp⟩ := bind_some hp
        have b_25 := at_lo h_24
        have b_26 := at_hi h_24
        try simp at b_25
        try simp at b_26
        have c_27 := splice_row h_24 0 e_18 [(.s (.int .i64 e_18))] (by simp) rfl
        try simp at c_27
        have l_28 := row_room h_24 0 (m := 1) (by decide)
        try simp at l_28
        cases hp
        simp [Goal, FnEnd, retR, rsrc, RSrc.val, nodupR, nodup, tupPart, h_1, h_8, h_17, b_20, b_21, c_22, b_25, b_26, c_27, l_28]
      · try simp at h_17
        try simp [h_1, h_8, h_17]
        rcases cond_cases hp with ⟨h_29, hp⟩ | ⟨h_29, hp⟩
        · try simp at h_29
          try simp [h_1, h_8, h_17, h_29]
          obtain ⟨e_30, h_31, hp⟩ := bind_some hp
          have b_32 := at_lo h_31
          have b_33 := at_hi h_31
          try simp at b_32
          try simp at b_33
          have c_34 := seg_row h_31 0 1 (by decide) (ds := [.sc (.int .i64 e_30)]) rfl
          try simp at c_34
          obtain ⟨e_35, h_36, hp⟩ := bind_some hp
          have b_37 := at_lo h_36
          have b_38 := at_hi h_36
          try simp at b_37
          try simp at b_38
          have c_39 := seg_at' h_36 0 1 (by decide) (ds := [.sc (.int .i64 e_35)]) rfl
          try simp at c_39
          obtain ⟨e_40, h_41, hp⟩ := bind_some hp
          have b_42 := at_lo h_41
          have b_43 := at_hi h_41
          try simp at b_42
          try simp at b_43
          have c_44 := splice_row h_41 0 e_35 [(.s (.int .i64 e_35))] (by simp) rfl
          try simp at c_44
          have l_45 := row_room h_41 0 (m := 1) (by decide)
          try simp at l_45
          cases hp
          simp [Goal, FnEnd, retR, rsrc, RSrc.val, nodupR, nodup, tupPart, h_1, h_8, h_17, h_29, b_32, b_33, c_34, b_37, b_38, c_39, b_42, b_43, c_44, l_45]
        · try simp at h_29
          try simp [h_1, h_8, h_17, h_29]
          rcases cond_cases hp with ⟨h_46, hp⟩ | ⟨h_46, hp⟩
          · try simp at h_46
            try simp [h_1, h_8, h_17, h_29, h_46]
            obtain ⟨e_47, h_48, hp⟩ := bind_some hp
            have b_49 := at_lo h_48
            have b_50 := at_hi h_48
            try simp at b_49
            try simp at b_50
            have c_51 := seg_at' h_48 0 1 (by decide) (ds := [.sc (.int .i64 e_47)]) rfl
            try simp at c_51
            obtain ⟨e_52, h_53, hp⟩ := bind_some hp
            have b_54 := at_lo h_53
            have b_55 := at_hi h_53
            try simp at b_54
            try simp at b_55
            have c_56 := splice_row h_53 0 (-1) [(.s (.int .i64 (-1)))] (by simp) rfl
            try simp at c_56
            have l_57 := row_room h_53 0 (m := 1) (by decide)
            try simp at l_57
            cases hp
            simp [Goal, FnEnd, retR, rsrc, RSrc.val, nodupR, nodup, tupPart, h_1, h_8, h_17, h_29, h_46, b_49, b_50, c_51, b_54, b_55, c_56, l_57]
          · try simp at h_46
            try simp [h_1, h_8, h_17, h_29, h_46]
            rcases cond_cases hp with ⟨h_58, hp⟩ | ⟨h_58, hp⟩
            · try simp at h_58
              obtain ⟨e_59, h_60, hp⟩ := bind_some hp
              have b_61 := at_lo h_60
              have b_62 := at_hi h_60
              try simp at b_61
              try simp at b_62
              have c_63 := seg_at' h_60 0 1 (by decide) (ds := [.sc (.int .i64 e_59)]) rfl
              try simp at c_63
              obtain ⟨y_64, h_65, hp⟩ := bind_some hp
              have c_66 := C78_eq h_65
              simp at c_66
              obtain ⟨e_67, h_68, hp⟩ := bind_some hp
              have b_69 := at_lo h_68
              have b_70 := at_hi h_68
              try simp at b_69
              try simp at b_70
              have c_71 := seg_at' h_68 0 1 (by decide) (ds := [.sc (.int .i64 e_67)]) rfl
              try simp at c_71
              obtain ⟨y_72, h_73, hp⟩ := bind_some hp
              have c_74 := C79_eq h_73
              simp at c_74
              try simp [h_1, h_8, h_17, h_29, h_46, h_58, b_61, b_62, c_63, c_66, b_69, b_70, c_71, c_74]
              rcases cond_cases hp with ⟨h_75, hp⟩ | ⟨h_75, hp⟩
              · try simp at h_75
                cases hp
                simp [Goal, FnEnd, retR, rsrc, RSrc.val, nodupR, nodup, tupPart, h_1, h_8, h_17, h_29, h_46, h_58, h_75]
              · try simp at h_75
                try simp [h_1, h_8, h_17, h_29, h_46, h_58, h_75]
                obtain ⟨e_76, h_77, hp⟩ := bind_some hp
                cases Option.some.inj (h_68.symm.trans h_77)
                have b_78 := at_lo h_68
                have b_79 := at_hi h_68
                try simp at b_78
                try simp at b_79
                have c_80 := seg_at' h_68 0 1 (by decide) (ds := [.sc (.int .i64 e_67)]) rfl
                try simp at c_80
                obtain ⟨e_81, h_82, hp⟩ := bind_some hp
                cases Option.some.inj (h_60.symm.trans h_82)
                have b_83 := at_lo h_60
                have b_84 := at_hi h_60
                try simp at b_83
                try simp at b_84
                have c_85 := seg_at' h_60 0 1 (by decide) (ds := [.sc (.int .i64 e_59)]) rfl
                try simp at c_85
                obtain ⟨e_86, h_87, hp⟩ := bind_some hp
                have b_88 := at_lo h_87
                have b_89 := at_hi h_87
                try simp at b_88
                try simp at b_89
                have c_90 := splice_row h_87 0 e_59 [(.s (.int .i64 e_59))] (by simp) rfl
                try simp at c_90
                have l_91 := row_room h_87 0 (m := 1) (by decide)
                try simp at l_91
                cases hp
                simp [Goal, FnEnd, retR, rsrc, RSrc.val, nodupR, nodup, tupPart, h_1, h_8, h_17, h_29, h_46, h_58, h_75, b_78, b_79, c_80, b_83, b_84, c_85, b_88, b_89, c_90, l_91]
            · try simp at h_58
              try simp [h_1, h_8, h_17, h_29, h_46, h_58]
              rcases cond_cases hp with ⟨h_92, hp⟩ | ⟨h_92, hp⟩
              · try simp at h_92
                obtain ⟨y_95, h_96, hp⟩ := bind_some hp
                have c_97 := C80_eq h_96
                simp at c_97
                cases hp
                simp [Goal, FnEnd, retR, rsrc, RSrc.val, nodupR, nodup, tupPart, h_1, h_8, h_17, h_29, h_46, h_58, h_92, c_97]
              · try simp at h_92
                cases hp
                simp [Goal, FnEnd, retR, rsrc, RSrc.val, nodupR, nodup, tupPart, h_1, h_8, h_17, h_29, h_46, h_58, h_92]
theorem po52 : PO Try.prog 52 C52 := po_of (g := g52) (ctxOK_ofO [(78, C78), (79, C79)] rfl ⟨pc78, pc79, trivial⟩ [(80, C80)] rfl ⟨po80, trivial⟩) rfl fun x y h => w52 h

noncomputable def C53 : List AV → Option AV := specP (X := THeap × Unit) fun x => spec_HasLeak x.1
theorem C53_eq {h_} {y} (h : spec_HasLeak h_ = some y) : C53 [av .shr h_] = some (Res.res y) := specP_eq (X := THeap × Unit) (F := fun x => spec_HasLeak x.1) (x := (h_, ())) h
noncomputable def g53 : Cfg := { P := Try.prog, take := [], keep := [], gho := [], ctx := [(46, C46)] }
@[simp] theorem g53_P : g53.P = Try.prog := rfl
@[simp] theorem g53_t : g53.take = [] := rfl
@[simp] theorem g53_g : g53.gho = [] := rfl
@[simp] theorem g53_r : g53.ro = [] := rfl
@[simp] theorem g53_w : g53.away = [] ∧ g53.give = [] ∧ g53.octx = [] := by rw [g53]; exact ⟨rfl, rfl, rfl⟩
@[simp] theorem g53_46 : lookN 46 g53.ctx = some C46 := rfl
set_option maxHeartbeats 4000000 in
set_option maxRecDepth 100000 in
theorem w53 {h_} {y} (hp : spec_HasLeak h_ = some y) : ∃ m, callo g53 0 53 [av .shr h_] mem0 = some (Res.res y, m) := by
  refine start_fn (Try.f53.body.getD .skip) [.tmp 2] rfl rfl Try.func53 (by kernel_rfl) (by kernel_rfl) (by simp [Try.ntmps53]) rfl ?_
  unfold spec_HasLeak at hp
  obtain ⟨y_1, h_2, hp⟩ := bind_some hp
  have c_3 := C46_eq h_2
  simp at c_3
  cases hp
  simp [Try.f53, Goal, FnEnd, c_3]
theorem pc53 : PC Try.prog 53 C53 := pc_of (g := g53) (ctxOK_of [(46, C46)] rfl ⟨pc46, trivial⟩) ⟨Try.f53, Try.func53, by kernel_rfl, by kernel_rfl⟩ fun x y h => w53 h

noncomputable def C81 : List AV → Option AV := specP (X := (List Int) × Int × Unit) fun x => spec_l7New x.1 x.2.1
theorem C81_eq {order cell} {y} (h : spec_l7New order cell = some y) : C81 [av .shr order, av .shr cell] = some (Res.res y) := specP_eq (X := (List Int) × Int × Unit) (F := fun x => spec_l7New x.1 x.2.1) (x := (order, cell, ())) h
noncomputable def g81 : Cfg := { P := Try.prog, take := [], keep := [], gho := [], ctx := [(95, C95)] }
@[simp] theorem g81_P : g81.P = Try.prog := rfl
@[simp] theorem g81_t : g81.take = [] := rfl
@[simp] theorem g81_g : g81.gho = [] := rfl
@[simp] theorem g81_r : g81.ro = [] := rfl
@[simp] theorem g81_w : g81.away = [] ∧ g81.give = [] ∧ g81.octx = [] := by rw [g81]; exact ⟨rfl, rfl, rfl⟩
@[simp] theorem g81_95 : lookN 95 g81.ctx = some C95 := rfl
set_option maxHeartbeats 4000000 in
set_option maxRecDepth 100000 in
theorem w81 {order cell} {y} (hp : spec_l7New order cell = some y) : ∃ m, callo g81 0 81 [av .shr order, av .shr cell] mem0 = some (Res.res y, m) := by
  refine start_fn (Try.f81.body.getD .skip) [.tmp 4] rfl rfl Try.func81 (by kernel_rfl) (by kernel_rfl) (by simp [Try.ntmps81]) rfl ?_
  unfold spec_l7New at hp
  obtain ⟨y_1, h_2, hp⟩ := bind_some hp
  have c_3 := C95_eq h_2
  simp at c_3
  simp [Try.f81, c_3]
  rcases cond_cases hp with ⟨h_4, hp⟩ | ⟨h_4, hp⟩
  · try simp at h_4
    cases hp
    simp [Goal, FnEnd, h_4]
  · try simp at h_4
    obtain ⟨e_5, h_6, hp⟩ := bind_some hp
    have b_8 := at_hi h_6
    try simp at b_8
    have c_9 := seg_at' h_6 0 1 (by decide) (ds := [.sc (.int .i64 e_5)]) rfl
    try simp at c_9
    cases hp
    simp [Goal, FnEnd, h_4, b_8, c_9]
theorem pc81 : PC Try.prog 81 C81 := pc_of (g := g81) (ctxOK_of [(95, C95)] rfl ⟨pc95, trivial⟩) ⟨Try.f81, Try.func81, by kernel_rfl, by kernel_rfl⟩ fun x y h => w81 h

noncomputable def C54 : List AV → Option AV := specP (X := THeap × Unit) fun x => spec_CanonHeap x.1
theorem C54_eq {h_} {y} (h : spec_CanonHeap h_ = some y) : C54 [av .shr h_] = some (Res.res y) := specP_eq (X := THeap × Unit) (F := fun x => spec_CanonHeap x.1) (x := (h_, ())) h
noncomputable def g54 : Cfg := { P := Try.prog, take := [(54, 22), (54, 40), (54, 54)], keep := [((54, 6), { hd := [1, 2, 3, 4, 5], bx := [], ex := [1, 2, 3, 4], rt := [2] }), ((54, 10), { hd := [1, 2, 3, 4, 6], bx := [], ex := [2, 4], rt := [2] })], gho := [], ctx := [(44, C44), (46, C46), (81, C81)] }
@[simp] theorem g54_P : g54.P = Try.prog := rfl
@[simp] theorem g54_t : g54.take = [(54, 22), (54, 40), (54, 54)] := rfl
@[simp] theorem g54_g : g54.gho = [] := rfl
@[simp] theorem g54_r : g54.ro = [] := rfl
@[simp] theorem g54_w : g54.away = [] ∧ g54.give = [] ∧ g54.octx = [] := by rw [g54]; exact ⟨rfl, rfl, rfl⟩
@[simp] theorem g54_44 : lookN 44 g54.ctx = some C44 := rfl
@[simp] theorem g54_46 : lookN 46 g54.ctx = some C46 := rfl
@[simp] theorem g54_81 : lookN 81 g54.ctx = some C81 := rfl
set_option maxHeartbeats 4000000 in
set_option maxRecDepth 100000 in
theorem w54 {h_} {y} (hp : spec_CanonHeap h_ = some y) : ∃ m, callo g54 0 54 [av .shr h_] mem0 = some (Res.res y, m) := by
  refine start_fn (Try.f54.body.getD .skip) [.cell 2 38] rfl rfl Try.func54 (by kernel_rfl) (by kernel_rfl) (by simp [Try.ntmps54]) rfl ?_
  unfold spec_CanonHeap at hp
  obtain ⟨y_1, h_2, hp⟩ := bind_some hp
  have c_3 := C44_eq h_2
  simp at c_3
  simp [Try.f54, c_3]
  rcases cond_cases hp with ⟨h_4, hp⟩ | ⟨h_4, hp⟩
  · try simp at h_4
    obtain ⟨y_5, h_6, hp⟩ := bind_some hp
    have c_7 := C46_eq h_6
    simp at c_7
    try simp [h_4, c_7]
    obtain ⟨r_33, h_34, hp⟩ := bind_some hp
    obtain ⟨I_10, I_10_⟩ : ∃ I : Int × (List Int) → St → Prop, I = (fun (s_8 : Int × (List Int)) (σ : St) => σ.env 1 = .one (.ptr (1, 1) 0) ∧ σ.env 2 = .one (.ptr (1, 2) 0) ∧ σ.env 3 = .one (.l .own y_5.length (encL y_5)) ∧ σ.env 4 = .one (.ptr (1, 4) 0) ∧ σ.env 5 = .one (.s (.int .i64 s_8.1)) ∧ σ.mem (1, 1) = some [(.l .shr h_.vars.length (encL h_.vars)), (.l .shr h_.next.length (encL h_.next))] ∧ σ.mem (1, 2) = some [(.l .own 0 []), (.l .own 0 [])] ∧ σ.mem (1, 4) = some [(.l .own s_8.2.length (encL s_8.2)), (.l .own 0 [])] ∧ NoBox [(1, 1), (1, 2), (1, 4)] σ.mem) := ⟨_, rfl⟩
    obtain ⟨X_11, X_11_⟩ : ∃ X : (List Int) → Out → Prop, X = (fun (r_33 : (List Int)) (out : Out) => ∃ σ : St, out = .exit 0 σ ∧ σ.env 1 = .one (.ptr (1, 1) 0) ∧ σ.env 2 = .one (.ptr (1, 2) 0) ∧ σ.env 3 = .one (.l .own y_5.length (encL y_5)) ∧ σ.env 4 = .one (.ptr (1, 4) 0) ∧ σ.mem (1, 1) = some [(.l .shr h_.vars.length (encL h_.vars)), (.l .shr h_.next.length (encL h_.next))] ∧ σ.mem (1, 2) = some [(.l .own 0 []), (.l .own 0 [])] ∧ σ.mem (1, 4) = some [(.l .own r_33.length (encL r_33)), (.l .own 0 [])] ∧ NoBox [(1, 1), (1, 2), (1, 4)] σ.mem) := ⟨_, rfl⟩
    refine loopP ({ hd := [1, 2, 3, 4, 5], bx := [], ex := [1, 2, 3, 4], rt := [2] }) I_10 X_11 h_34 (by exact rfl) ?_ ?_ ?_
    · rw [I_10_]
      refine ⟨?_, ?_, ?_, ?_, ?_, ?_, ?_, ?_, NoBox.restrict (by intro k hk hb; simp at hk hb; simp [hk, hb, h_4])⟩ <;> simp [restrict_env, restrict_mem, h_4]
    · intro s_8 σ_12 a_9 hI hp
      rw [I_10_] at hI
      obtain ⟨q_13, q_14, q_15, q_16, q_17, q_18, q_19, q_20, hn_21⟩ := hI
      try simp [h_4, q_13, q_14, q_15, q_16, q_17, q_18, q_19, q_20]
      rcases cond_cases hp with ⟨h_22, hp⟩ | ⟨h_22, hp⟩
      · try simp at h_22
        obtain ⟨e_23, h_24, hp⟩ := bind_some hp
        have b_25 := at_lo h_24
        have b_26 := at_hi h_24
        try simp at b_25
        try simp at b_26
        have c_27 := seg_at' h_24 0 1 (by decide) (ds := [.sc (.int .i64 e_23)]) rfl
        try simp at c_27
        obtain ⟨y_28, h_29, hp⟩ := bind_some hp
        have c_30 := C81_eq h_29
        simp at c_30
        obtain ⟨_, h_31, hp⟩ := bind_some hp
        have b_32 := room_ok h_31
        try simp at b_32
        cases hp
        try simp [h_4, q_13, q_14, q_15, q_16, q_17, q_18, q_19, q_20, h_22, b_25, b_26, c_27, c_30, b_32]
        refine goal_next ?_
        rw [I_10_]
        refine ⟨?_, ?_, ?_, ?_, ?_, ?_, ?_, ?_, NoBox.restrict (by intro k hk hb; simp at hk hb; simp [hk, hb, h_4, q_13, q_14, q_15, q_16, q_17, q_18, q_19, q_20, h_22, b_25, b_26, c_27, c_30, b_32, hn_21 k (by simp [hk, hb])])⟩ <;> simp [restrict_env, restrict_mem, h_4, q_13, q_14, q_15, q_16, q_17, q_18, q_19, q_20, h_22, b_25, b_26, c_27, c_30, b_32]
      · try simp at h_22
        cases hp
        try simp [h_4, q_13, q_14, q_15, q_16, q_17, q_18, q_19, q_20, h_22]
        refine goal_outX ?_
        rw [X_11_]
        refine ⟨_, rfl, ?_, ?_, ?_, ?_, ?_, ?_, ?_, NoBox.restrict (by intro k hk hb; simp at hk hb; simp [hk, hb, h_4, q_13, q_14, q_15, q_16, q_17, q_18, q_19, q_20, h_22, hn_21 k (by simp [hk, hb])])⟩ <;> simp [restrict_env, restrict_mem, h_4, q_13, q_14, q_15, q_16, q_17, q_18, q_19, q_20, h_22]
    · intro out hX
      rw [X_11_] at hX
      obtain ⟨σ_35, rfl, q_36, q_37, q_38, q_39, q_40, q_41, q_42, hn_43⟩ := hX
      try simp [h_4, q_36, q_37, q_38, q_39, q_40, q_41, q_42]
      obtain ⟨r_74, h_75, hp⟩ := bind_some hp
      obtain ⟨I_46, I_46_⟩ : ∃ I : Int × (List Int) → St → Prop, I = (fun (s_44 : Int × (List Int)) (σ : St) => σ.env 1 = .one (.ptr (1, 1) 0) ∧ σ.env 2 = .one (.ptr (1, 2) 0) ∧ σ.env 3 = .one (.l .own y_5.length (encL y_5)) ∧ σ.env 4 = .one (.ptr (1, 4) 0) ∧ σ.env 6 = .one (.s (.int .i64 s_44.1)) ∧ σ.mem (1, 1) = some [(.l .shr h_.vars.length (encL h_.vars)), (.l .shr h_.next.length (encL h_.next))] ∧ σ.mem (1, 2) = some [(.l .own 0 []), (.l .own 0 [])] ∧ σ.mem (1, 4) = some [(.l .own r_33.length (encL r_33)), (.l .own s_44.2.length (encL s_44.2))] ∧ NoBox [(1, 1), (1, 2), (1, 4)] σ.mem) := ⟨_, rfl⟩
      obtain ⟨X_47, X_47_⟩ : ∃ X : (List Int) → Out → Prop, X = (fun (r_74 : (List Int)) (out : Out) => ∃ σ : St, out = .exit 2 σ ∧ σ.env 2 = .one (.ptr (1, 2) 0) ∧ σ.env 4 = .one (.ptr (1, 4) 0) ∧ σ.mem (1, 1) = some [(.l .shr h_.vars.length (encL h_.vars)), (.l .shr h_.next.length (encL h_.next))] ∧ σ.mem (1, 2) = some [(.l .own 0 []), (.l .own 0 [])] ∧ σ.mem (1, 4) = some [(.l .own r_33.length (encL r_33)), (.l .own r_74.length (encL r_74))] ∧ NoBox [(1, 1), (1, 2), (1, 4)] σ.mem) := ⟨_, rfl⟩
      refine loopP ({ hd := [1, 2, 3, 4, 6], bx := [], ex := [2, 4], rt := [2] }) I_46 X_47 h_75 (by exact rfl) ?_ ?_ ?_
      · rw [I_46_]
        refine ⟨?_, ?_, ?_, ?_, ?_, ?_, ?_, ?_, NoBox.restrict (by intro k hk hb; simp at hk hb; simp [hk, hb, h_4, q_36, q_37, q_38, q_39, q_40, q_41, q_42, hn_43 k (by simp [hk, hb])])⟩ <;> simp [restrict_env, restrict_mem, h_4, q_36, q_37, q_38, q_39, q_40, q_41, q_42]
      · intro s_44 σ_48 a_45 hI hp
        rw [I_46_] at hI
        obtain ⟨q_49, q_50, q_51, q_52, q_53, q_54, q_55, q_56, hn_57⟩ := hI
        try simp [h_4, q_49, q_50, q_51, q_52, q_53, q_54, q_55, q_56]
        rcases cond_cases hp with ⟨h_58, hp⟩ | ⟨h_58, hp⟩
        · try simp at h_58
          obtain ⟨e_59, h_60, hp⟩ := bind_some hp
          have b_61 := at_lo h_60
          have b_62 := at_hi h_60
          try simp at b_61
          try simp at b_62
          have c_63 := seg_at' h_60 0 1 (by decide) (ds := [.sc (.int .i64 e_59)]) rfl
          try simp at c_63
          obtain ⟨e_64, h_65, hp⟩ := bind_some hp
          have b_66 := at_lo h_65
          have b_67 := at_hi h_65
          try simp at b_66
          try simp at b_67
          have c_68 := seg_at' h_65 0 1 (by decide) (ds := [.sc (.int .i64 e_64)]) rfl
          try simp at c_68
          obtain ⟨y_69, h_70, hp⟩ := bind_some hp
          have c_71 := C81_eq h_70
          simp at c_71
          obtain ⟨_, h_72, hp⟩ := bind_some hp
          have b_73 := room_ok h_72
          try simp at b_73
          cases hp
          try simp [h_4, q_49, q_50, q_51, q_52, q_53, q_54, q_55, q_56, h_58, b_61, b_62, c_63, b_66, b_67, c_68, c_71, b_73]
          refine goal_next ?_
          rw [I_46_]
          refine ⟨?_, ?_, ?_, ?_, ?_, ?_, ?_, ?_, NoBox.restrict (by intro k hk hb; simp at hk hb; simp [hk, hb, h_4, q_49, q_50, q_51, q_52, q_53, q_54, q_55, q_56, h_58, b_61, b_62, c_63, b_66, b_67, c_68, c_71, b_73, hn_57 k (by simp [hk, hb])])⟩ <;> simp [restrict_env, restrict_mem, h_4, q_49, q_50, q_51, q_52, q_53, q_54, q_55, q_56, h_58, b_61, b_62, c_63, b_66, b_67, c_68, c_71, b_73]
        · try simp at h_58
          cases hp
          try simp [h_4, q_49, q_50, q_51, q_52, q_53, q_54, q_55, q_56, h_58]
          refine goal_outX ?_
          rw [X_47_]
          refine ⟨_, rfl, ?_, ?_, ?_, ?_, ?_, NoBox.restrict (by intro k hk hb; simp at hk hb; simp [hk, hb, h_4, q_49, q_50, q_51, q_52, q_53, q_54, q_55, q_56, h_58, hn_57 k (by simp [hk, hb])])⟩ <;> simp [restrict_env, restrict_mem, h_4, q_49, q_50, q_51, q_52, q_53, q_54, q_55, q_56, h_58]
      · intro out hX
        rw [X_47_] at hX
        obtain ⟨σ_76, rfl, q_77, q_78, q_79, q_80, q_81, hn_82⟩ := hX
        cases hp
        simp [Goal, FnEnd, retR, rsrc, RSrc.val, nodupR, nodup, tupPart, h_4, q_77, q_78, q_79, q_80, q_81]
  · try simp at h_4
    cases hp
    simp [Goal, FnEnd, retR, rsrc, RSrc.val, nodupR, nodup, tupPart, h_4]
theorem pc54 : PC Try.prog 54 C54 := pc_of (g := g54) (ctxOK_of [(44, C44), (46, C46), (81, C81)] rfl ⟨pc44, pc46, pc81, trivial⟩) ⟨Try.f54, Try.func54, by kernel_rfl, by kernel_rfl⟩ fun x y h => w54 h

noncomputable def C33 : List AV → Option AV := specP (X := (List ByteArray) × TStmt × THeap × Unit) fun x => spec_Exec x.1 x.2.1 x.2.2.1
theorem C33_eq {vars s h_} {y} (h : spec_Exec vars s h_ = some y) : C33 [av .shr vars, av .shr s, av .shr h_] = some (Res.res y) := specP_eq (X := (List ByteArray) × TStmt × THeap × Unit) (F := fun x => spec_Exec x.1 x.2.1 x.2.2.1) (x := (vars, s, h_, ())) h
noncomputable def g33 : Cfg := { P := Try.prog, take := [(33, 72)], keep := [], gho := [], ctx := [(30, C30), (31, C31), (42, C42), (47, C47), (48, C48), (49, C49), (50, C50), (51, C51), (53, C53), (54, C54)], give := [(33, 78)], octx := [(52, C52)] }
@[simp] theorem g33_P : g33.P = Try.prog := rfl
@[simp] theorem g33_t : g33.take = [(33, 72)] := rfl
@[simp] theorem g33_g : g33.gho = [] := rfl
@[simp] theorem g33_r : g33.ro = [] := rfl
@[simp] theorem g33_w : g33.away = [] ∧ g33.give = [(33, 78)] ∧ g33.octx = [(52, C52)] := by rw [g33]; exact ⟨rfl, rfl, rfl⟩
@[simp] theorem g33_30 : lookN 30 g33.ctx = some C30 := rfl
@[simp] theorem g33_31 : lookN 31 g33.ctx = some C31 := rfl
@[simp] theorem g33_42 : lookN 42 g33.ctx = some C42 := rfl
@[simp] theorem g33_47 : lookN 47 g33.ctx = some C47 := rfl
@[simp] theorem g33_48 : lookN 48 g33.ctx = some C48 := rfl
@[simp] theorem g33_49 : lookN 49 g33.ctx = some C49 := rfl
@[simp] theorem g33_50 : lookN 50 g33.ctx = some C50 := rfl
@[simp] theorem g33_51 : lookN 51 g33.ctx = some C51 := rfl
@[simp] theorem g33_53 : lookN 53 g33.ctx = some C53 := rfl
@[simp] theorem g33_54 : lookN 54 g33.ctx = some C54 := rfl
set_option maxHeartbeats 4000000 in
set_option maxRecDepth 100000 in
theorem w33 {vars s h_} {y} (hp : spec_Exec vars s h_ = some y) : ∃ m, callo g33 0 33 [av .shr vars, av .shr s, av .shr h_] mem0 = some (Res.res y, m) := by
  refine start_fn (Try.f33.body.getD .skip) [.cell 6 38, .tmp 7] rfl rfl Try.func33 (by kernel_rfl) (by kernel_rfl) (by simp [Try.ntmps33]) rfl ?_
  unfold spec_Exec at hp
  simp [Try.f33, -k_region, k_regionS (l := [1, 5, 9])]
  obtain ⟨r_1, h_2, hp⟩ := bind_some hp
  refine joinP (J := fun (σ : St) => σ.env 0 = .one (.l .shr vars.length (encL vars)) ∧ σ.env 4 = .one (.ptr (1, 4) 0) ∧ σ.env 5 = .one (.ptr (1, 5) 0) ∧ σ.env 6 = .one (.ptr (1, 6) 0) ∧ σ.env 22 = .one (.s (.bool r_1)) ∧ σ.mem (1, 4) = some [(.s (.int .i64 s.kind)), (.s (.string s.a)), (.s (.string s.b))] ∧ σ.mem (1, 5) = some [(.l .shr h_.vars.length (encL h_.vars)), (.l .shr h_.next.length (encL h_.next))] ∧ σ.mem (1, 6) = some [(.l .own 0 []), (.l .own 0 [])] ∧ NoBox [(1, 4), (1, 5), (1, 6)] σ.mem) ?_ ?_
  · replace hp := h_2
    rw [k_region]
    obtain ⟨y_13, h_14, hp⟩ := bind_some hp
    have c_15 := C42_eq h_14
    simp at c_15
    try simp [-k_region, k_regionS (l := [1, 5, 9]), c_15]
    rcases cond_cases hp with ⟨h_16, hp⟩ | ⟨h_16, hp⟩
    · try simp at h_16
      obtain ⟨y_17, h_18, hp⟩ := bind_some hp
      have c_19 := C30_eq h_18
      simp at c_19
      cases hp
      try simp [-k_region, k_regionS (l := [1, 5, 9]), h_16, c_19]
      refine goal_join ?_
      refine ⟨?_, ?_, ?_, ?_, ?_, ?_, ?_, ?_, (by intro k hk; simp at hk; simp [hk, -k_region, k_regionS (l := [1, 5, 9]), h_16, c_19])⟩ <;> simp [restrict_env, restrict_mem, -k_region, k_regionS (l := [1, 5, 9]), h_16, c_19]
    · try simp at h_16
      cases hp
      try simp [-k_region, k_regionS (l := [1, 5, 9]), h_16]
      refine goal_join ?_
      refine ⟨?_, ?_, ?_, ?_, ?_, ?_, ?_, ?_, (by intro k hk; simp at hk; simp [hk, -k_region, k_regionS (l := [1, 5, 9]), h_16])⟩ <;> simp [restrict_env, restrict_mem, -k_region, k_regionS (l := [1, 5, 9]), h_16]
  · intro σ_3 hJ
    obtain ⟨q_4, q_5, q_6, q_7, q_8, q_9, q_10, q_11, hn_12⟩ := hJ
    try simp [-k_region, k_regionS (l := [1, 5, 9]), q_4, q_5, q_6, q_7, q_8, q_9, q_10, q_11]
    rcases cond_cases hp with ⟨h_20, hp⟩ | ⟨h_20, hp⟩
    · try simp at h_20
      cases hp
      simp [Goal, FnEnd, retR, rsrc, RSrc.val, nodupR, nodup, tupPart, -k_region, k_regionS (l := [1, 5, 9]), q_4, q_5, q_6, q_7, q_8, q_9, q_10, q_11, h_20]
    · try simp at h_20
      obtain ⟨y_21, h_22, hp⟩ := bind_some hp
      have c_23 := C48_eq h_22
      simp at c_23
      obtain ⟨y_24, h_25, hp⟩ := bind_some hp
      have c_26 := C47_eq h_25
      simp at c_26
      obtain ⟨y_27, h_28, hp⟩ := bind_some hp
      have c_29 := C48_eq h_28
      simp at c_29
      obtain ⟨y_30, h_31, hp⟩ := bind_some hp
      have c_32 := C47_eq h_31
      simp at c_32
      try simp [-k_region, k_regionS (l := [1, 5, 9]), q_4, q_5, q_6, q_7, q_8, q_9, q_10, q_11, h_20, c_23, c_26, c_29, c_32]
      obtain ⟨r_33, h_34, hp⟩ := bind_some hp
      refine joinP (J := fun (σ : St) => σ.env 4 = .one (.ptr (1, 4) 0) ∧ σ.env 5 = .one (.ptr (1, 5) 0) ∧ σ.env 6 = .one (.ptr (1, 6) 0) ∧ σ.env 8 = .one (.s (.int .i64 y_24)) ∧ σ.env 9 = .one (.s (.int .i64 y_30)) ∧ σ.env 34 = .one (.s (.bool r_33)) ∧ σ.mem (1, 4) = some [(.s (.int .i64 s.kind)), (.s (.string s.a)), (.s (.string s.b))] ∧ σ.mem (1, 5) = some [(.l .shr h_.vars.length (encL h_.vars)), (.l .shr h_.next.length (encL h_.next))] ∧ σ.mem (1, 6) = some [(.l .own 0 []), (.l .own 0 [])] ∧ NoBox [(1, 4), (1, 5), (1, 6)] σ.mem) ?_ ?_
      · replace hp := h_34
        rw [k_region]
        obtain ⟨y_46, h_47, hp⟩ := bind_some hp
        have c_48 := C49_eq h_47
        simp at c_48
        try simp [-k_region, k_regionS (l := [1, 5, 9]), q_4, q_5, q_6, q_7, q_8, q_9, q_10, q_11, h_20, c_23, c_26, c_29, c_32, c_48]
        rcases cond_cases hp with ⟨h_49, hp⟩ | ⟨h_49, hp⟩
        · try simp at h_49
          obtain ⟨e_50, h_51, hp⟩ := bind_some hp
          have b_52 := at_lo h_51
          have b_53 := at_hi h_51
          try simp at b_52
          try simp at b_53
          have c_54 := seg_at' h_51 0 1 (by decide) (ds := [.sc (.int .i64 e_50)]) rfl
          try simp at c_54
          obtain ⟨e_55, h_56, hp⟩ := bind_some hp
          have b_57 := at_lo h_56
          have b_58 := at_hi h_56
          try simp at b_57
          try simp at b_58
          have c_59 := seg_at' h_56 0 1 (by decide) (ds := [.sc (.int .i64 e_55)]) rfl
          try simp at c_59
          obtain ⟨y_60, h_61, hp⟩ := bind_some hp
          have c_62 := C50_eq h_61
          simp at c_62
          cases hp
          try simp [-k_region, k_regionS (l := [1, 5, 9]), q_4, q_5, q_6, q_7, q_8, q_9, q_10, q_11, h_20, h_49, b_52, b_53, c_54, b_57, b_58, c_59, c_62]
          refine goal_join ?_
          refine ⟨?_, ?_, ?_, ?_, ?_, ?_, ?_, ?_, ?_, (by intro k hk; simp at hk; simp [hk, -k_region, k_regionS (l := [1, 5, 9]), q_4, q_5, q_6, q_7, q_8, q_9, q_10, q_11, h_20, h_49, b_52, b_53, c_54, b_57, b_58, c_59, c_62, hn_12 k (by simp [hk])])⟩ <;> simp [restrict_env, restrict_mem, -k_region, k_regionS (l := [1, 5, 9]), q_4, q_5, q_6, q_7, q_8, q_9, q_10, q_11, h_20, h_49, b_52, b_53, c_54, b_57, b_58, c_59, c_62]
        · try simp at h_49
          cases hp
          try simp [-k_region, k_regionS (l := [1, 5, 9]), q_4, q_5, q_6, q_7, q_8, q_9, q_10, q_11, h_20, h_49]
          refine goal_join ?_
          refine ⟨?_, ?_, ?_, ?_, ?_, ?_, ?_, ?_, ?_, (by intro k hk; simp at hk; simp [hk, -k_region, k_regionS (l := [1, 5, 9]), q_4, q_5, q_6, q_7, q_8, q_9, q_10, q_11, h_20, h_49, hn_12 k (by simp [hk])])⟩ <;> simp [restrict_env, restrict_mem, -k_region, k_regionS (l := [1, 5, 9]), q_4, q_5, q_6, q_7, q_8, q_9, q_10, q_11, h_20, h_49]
      · intro σ_35 hJ
        obtain ⟨q_36, q_37, q_38, q_39, q_40, q_41, q_42, q_43, q_44, hn_45⟩ := hJ
        try simp [-k_region, k_regionS (l := [1, 5, 9]), h_20, q_36, q_37, q_38, q_39, q_40, q_41, q_42, q_43, q_44]
        rcases cond_cases hp with ⟨h_63, hp⟩ | ⟨h_63, hp⟩
        · try simp at h_63
          cases hp
          simp [Goal, FnEnd, retR, rsrc, RSrc.val, nodupR, nodup, tupPart, -k_region, k_regionS (l := [1, 5, 9]), h_20, q_36, q_37, q_38, q_39, q_40, q_41, q_42, q_43, q_44, h_63]
        · try simp at h_63
          obtain ⟨y_64, h_65, hp⟩ := bind_some hp
          have c_66 := C51_eq h_65
          simp at c_66
          try simp [-k_region, k_regionS (l := [1, 5, 9]), h_20, q_36, q_37, q_38, q_39, q_40, q_41, q_42, q_43, q_44, h_63, c_66]
          rcases cond_cases hp with ⟨h_67, hp⟩ | ⟨h_67, hp⟩
          · try simp at h_67
            cases hp
            simp [Goal, FnEnd, retR, rsrc, RSrc.val, nodupR, nodup, tupPart, -k_region, k_regionS (l := [1, 5, 9]), h_20, q_36, q_37, q_38, q_39, q_40, q_41, q_42, q_43, q_44, h_63, h_67]
          · try simp at h_67
            try simp [-k_region, k_regionS (l := [1, 5, 9]), h_20, q_36, q_37, q_38, q_39, q_40, q_41, q_42, q_43, q_44, h_63, h_67]
            obtain ⟨r_68, h_69, hp⟩ := bind_some hp
            refine joinP (J := fun (σ : St) => σ.env 4 = .one (.ptr (1, 4) 0) ∧ σ.env 5 = .one (.ptr (1, 5) 0) ∧ σ.env 6 = .one (.ptr (1, 6) 0) ∧ σ.env 8 = .one (.s (.int .i64 y_24)) ∧ σ.env 9 = .one (.s (.int .i64 y_30)) ∧ σ.env 61 = .one (.s (.bool r_68)) ∧ σ.mem (1, 4) = some [(.s (.int .i64 s.kind)), (.s (.string s.a)), (.s (.string s.b))] ∧ σ.mem (1, 5) = some [(.l .shr h_.vars.length (encL h_.vars)), (.l .shr h_.next.length (encL h_.next))] ∧ σ.mem (1, 6) = some [(.l .own 0 []), (.l .own 0 [])] ∧ NoBox [(1, 4), (1, 5), (1, 6)] σ.mem) ?_ ?_
            · replace hp := h_69
              rw [k_region]
              try simp [-k_region, k_regionS (l := [1, 5, 9]), h_20, q_36, q_37, q_38, q_39, q_40, q_41, q_42, q_43, q_44, h_63, h_67]
              rcases cond_cases hp with ⟨h_81, hp⟩ | ⟨h_81, hp⟩
              · try simp at h_81
                cases hp
                try simp [-k_region, k_regionS (l := [1, 5, 9]), h_20, q_36, q_37, q_38, q_39, q_40, q_41, q_42, q_43, q_44, h_63, h_67, h_81]
                refine goal_join ?_
                refine ⟨?_, ?_, ?_, ?_, ?_, ?_, ?_, ?_, ?_, (by intro k hk; simp at hk; simp [hk, -k_region, k_regionS (l := [1, 5, 9]), h_20, q_36, q_37, q_38, q_39, q_40, q_41, q_42, q_43, q_44, h_63, h_67, h_81, hn_45 k (by simp [hk])])⟩ <;> simp [restrict_env, restrict_mem, -k_region, k_regionS (l := [1, 5, 9]), h_20, q_36, q_37, q_38, q_39, q_40, q_41, q_42, q_43, q_44, h_63, h_67, h_81]
              · try simp at h_81
                cases hp
                try simp [-k_region, k_regionS (l := [1, 5, 9]), h_20, q_36, q_37, q_38, q_39, q_40, q_41, q_42, q_43, q_44, h_63, h_67, h_81]
                refine goal_join ?_
                refine ⟨?_, ?_, ?_, ?_, ?_, ?_, ?_, ?_, ?_, (by intro k hk; simp at hk; simp [hk, -k_region, k_regionS (l := [1, 5, 9]), h_20, q_36, q_37, q_38, q_39, q_40, q_41, q_42, q_43, q_44, h_63, h_67, h_81, hn_45 k (by simp [hk])])⟩ <;> simp [restrict_env, restrict_mem, -k_region, k_regionS (l := [1, 5, 9]), h_20, q_36, q_37, q_38, q_39, q_40, q_41, q_42, q_43, q_44, h_63, h_67, h_81]
            · intro σ_70 hJ
              obtain ⟨q_71, q_72, q_73, q_74, q_75, q_76, q_77, q_78, q_79, hn_80⟩ := hJ
              try simp [-k_region, k_regionS (l := [1, 5, 9]), h_20, h_63, h_67, q_71, q_72, q_73, q_74, q_75, q_76, q_77, q_78, q_79]
              rcases cond_cases hp with ⟨h_82, hp⟩ | ⟨h_82, hp⟩
              · try simp at h_82
                cases hp
                simp [Goal, FnEnd, retR, rsrc, RSrc.val, nodupR, nodup, tupPart, -k_region, k_regionS (l := [1, 5, 9]), h_20, h_63, h_67, q_71, q_72, q_73, q_74, q_75, q_76, q_77, q_78, q_79, h_82]
              · try simp at h_82
                obtain ⟨y_83, h_84, hp⟩ := bind_some hp
                have c_85 := C31_eq h_84
                simp at c_85
                obtain ⟨y_88, h_89, hp⟩ := bind_some hp
                have c_90 := C52_eq h_89
                simp at c_90
                have n_91 := hn_80 (1, 10) (by simp)
                try simp [-k_region, k_regionS (l := [1, 5, 9]), h_20, h_63, h_67, q_71, q_72, q_73, q_74, q_75, q_76, q_77, q_78, q_79, h_82, c_85, c_90, n_91]
                rcases cond_cases hp with ⟨h_92, hp⟩ | ⟨h_92, hp⟩
                · try simp at h_92
                  cases hp
                  simp [Goal, FnEnd, retR, rsrc, RSrc.val, nodupR, nodup, tupPart, -k_region, k_regionS (l := [1, 5, 9]), h_20, h_63, h_67, q_71, q_72, q_73, q_74, q_75, q_76, q_77, q_78, q_79, h_82, h_92]
                · try simp at h_92
                  obtain ⟨y_93, h_94, hp⟩ := bind_some hp
                  have c_95 := C53_eq h_94
                  simp at c_95
                  try simp [-k_region, k_regionS (l := [1, 5, 9]), h_20, h_63, h_67, q_71, q_72, q_73, q_74, q_75, q_76, q_77, q_78, q_79, h_82, h_92, c_95]
                  rcases cond_cases hp with ⟨h_96, hp⟩ | ⟨h_96, hp⟩
                  · try simp at h_96
                    cases hp
                    simp [Goal, FnEnd, retR, rsrc, RSrc.val, nodupR, nodup, tupPart, -k_region, k_regionS (l := [1, 5, 9]), h_20, h_63, h_67, q_71, q_72, q_73, q_74, q_75, q_76, q_77, q_78, q_79, h_82, h_92, h_96]
                  · try simp at h_96
                    obtain ⟨y_97, h_98, hp⟩ := bind_some hp
                    have c_99 := C54_eq h_98
                    simp at c_99
                    cases hp
                    simp [Goal, FnEnd, retR, rsrc, RSrc.val, nodupR, nodup, tupPart, -k_region, k_regionS (l := [1, 5, 9]), h_20, h_63, h_67, q_71, q_72, q_73, q_74, q_75, q_76, q_77, q_78, q_79, h_82, h_92, h_96, c_99]
theorem pc33 : PC Try.prog 33 C33 := pc_of (g := g33) (ctxOK_ofO [(30, C30), (31, C31), (42, C42), (47, C47), (48, C48), (49, C49), (50, C50), (51, C51), (53, C53), (54, C54)] rfl ⟨pc30, pc31, pc42, pc47, pc48, pc49, pc50, pc51, pc53, pc54, trivial⟩ [(52, C52)] rfl ⟨po52, trivial⟩) ⟨Try.f33, Try.func33, by kernel_rfl, by kernel_rfl⟩ fun x y h => w33 h

noncomputable def C16 : List AV → Option AV := specP (X := TProgram × THeap × (List Int) × Unit) fun x => spec_Follow x.1 x.2.1 x.2.2.1
theorem C16_eq {p_ h_ edges} {y} (h : spec_Follow p_ h_ edges = some y) : C16 [av .shr p_, av .shr h_, av .shr edges] = some (Res.res y) := specP_eq (X := TProgram × THeap × (List Int) × Unit) (F := fun x => spec_Follow x.1 x.2.1 x.2.2.1) (x := (p_, h_, edges, ())) h
noncomputable def g16 : Cfg := { P := Try.prog, take := [(16, 59), (16, 69), (16, 81), (16, 86), (16, 88)], keep := [((16, 5), { hd := [2, 3, 6, 9, 10], bx := [11, 12], ex := [2, 6, 9], rt := [6, 7, 8] })], gho := [], ctx := [(29, C29), (30, C30), (31, C31), (32, C32), (33, C33)] }
@[simp] theorem g16_P : g16.P = Try.prog := rfl
@[simp] theorem g16_t : g16.take = [(16, 59), (16, 69), (16, 81), (16, 86), (16, 88)] := rfl
@[simp] theorem g16_g : g16.gho = [] := rfl
@[simp] theorem g16_r : g16.ro = [] := rfl
@[simp] theorem g16_w : g16.away = [] ∧ g16.give = [] ∧ g16.octx = [] := by rw [g16]; exact ⟨rfl, rfl, rfl⟩
@[simp] theorem g16_29 : lookN 29 g16.ctx = some C29 := rfl
@[simp] theorem g16_30 : lookN 30 g16.ctx = some C30 := rfl
@[simp] theorem g16_31 : lookN 31 g16.ctx = some C31 := rfl
@[simp] theorem g16_32 : lookN 32 g16.ctx = some C32 := rfl
@[simp] theorem g16_33 : lookN 33 g16.ctx = some C33 := rfl
set_option maxHeartbeats 4000000 in
set_option maxRecDepth 100000 in
theorem w16 {p_ h_ edges} {y} (hp : spec_Follow p_ h_ edges = some y) : ∃ m, callo g16 0 16 [av .shr p_, av .shr h_, av .shr edges] mem0 = some (Res.res y, m) := by
  refine start_fn (Try.f16.body.getD .skip) [.cell 6 50, .tmp 7, .tmp 8] rfl rfl Try.func16 (by kernel_rfl) (by kernel_rfl) (by simp [Try.ntmps16]) rfl ?_
  unfold spec_Follow at hp
  obtain ⟨y_1, h_2, hp⟩ := bind_some hp
  have c_3 := C29_eq h_2
  simp at c_3
  simp [Try.f16, c_3]
  rcases cond_cases hp with ⟨h_4, hp⟩ | ⟨h_4, hp⟩
  · try simp at h_4
    obtain ⟨y_5, h_6, hp⟩ := bind_some hp
    have c_7 := C30_eq h_6
    simp at c_7
    try simp [h_4, c_7]
    rcases cond_cases hp with ⟨h_8, hp⟩ | ⟨h_8, hp⟩
    · try simp at h_8
      obtain ⟨y_9, h_10, hp⟩ := bind_some hp
      have c_11 := C31_eq h_10
      simp at c_11
      try simp [h_4, h_8, c_11]
      obtain ⟨r_64, h_65, hp⟩ := bind_some hp
      obtain ⟨I_14, I_14_⟩ : ∃ I : Int × Int × (List Int) × (List Int) → St → Prop, I = (fun (s_12 : Int × Int × (List Int) × (List Int)) (σ : St) => σ.env 2 = .one (.l .shr edges.length (encL edges)) ∧ σ.env 3 = .one (.ptr (1, 3) 0) ∧ σ.env 6 = .one (.ptr (1, 6) 0) ∧ σ.env 9 = .one (.ptr (1, 9) 0) ∧ σ.env 10 = .one (.s (.int .i64 s_12.1)) ∧ σ.mem (1, 3) = some [(.l .shr p_.vars.length (encL p_.vars)), (.s (.int .i64 p_.points)), (.l .shr p_.edges.length (encL p_.edges))] ∧ σ.mem (1, 4) = some [(.l .shr h_.vars.length (encL h_.vars)), (.l .shr h_.next.length (encL h_.next))] ∧ σ.mem (1, 6) = some [(.s (.int .i64 0)), (.l .own 0 []), (.l .own 0 [])] ∧ σ.mem (1, 9) = some [(.s (.int .i64 s_12.2.1)), (.l .own s_12.2.2.1.length (encL s_12.2.2.1)), (.l .own s_12.2.2.2.length (encL s_12.2.2.2))] ∧ NoBox [(1, 3), (1, 4), (1, 6), (1, 9)] σ.mem) := ⟨_, rfl⟩
      obtain ⟨X_15, X_15_⟩ : ∃ X : ((Int × Int × Int × (List Int) × (List Int)) ⊕ (Int × (List Int) × (List Int))) → Out → Prop, X = (fun (r_64 : (Int × Int × Int × (List Int) × (List Int)) ⊕ (Int × (List Int) × (List Int))) (out : Out) => Sum.elim (fun r_64 => ∃ σ : St, out = .ret σ ∧ σ.env 6 = .one (.ptr (1, 6) 0) ∧ σ.env 7 = .one (.s (.int .i64 r_64.1)) ∧ σ.env 8 = .one (.s (.int .i64 r_64.2.1)) ∧ σ.mem (1, 3) = some [(.l .shr p_.vars.length (encL p_.vars)), (.s (.int .i64 p_.points)), (.l .shr p_.edges.length (encL p_.edges))] ∧ σ.mem (1, 4) = some [(.l .shr h_.vars.length (encL h_.vars)), (.l .shr h_.next.length (encL h_.next))] ∧ σ.mem (1, 6) = some [(.s (.int .i64 r_64.2.2.1)), (.l .own r_64.2.2.2.1.length (encL r_64.2.2.2.1)), (.l .own r_64.2.2.2.2.length (encL r_64.2.2.2.2))] ∧ σ.mem (1, 9) = some [.dead, .dead, .dead] ∧ NoBox [(1, 3), (1, 4), (1, 6), (1, 9)] σ.mem) (fun r_64 => ∃ σ : St, out = .exit 0 σ ∧ σ.env 2 = .one (.l .shr edges.length (encL edges)) ∧ σ.env 6 = .one (.ptr (1, 6) 0) ∧ σ.env 9 = .one (.ptr (1, 9) 0) ∧ σ.mem (1, 3) = some [(.l .shr p_.vars.length (encL p_.vars)), (.s (.int .i64 p_.points)), (.l .shr p_.edges.length (encL p_.edges))] ∧ σ.mem (1, 4) = some [(.l .shr h_.vars.length (encL h_.vars)), (.l .shr h_.next.length (encL h_.next))] ∧ σ.mem (1, 6) = some [(.s (.int .i64 0)), (.l .own 0 []), (.l .own 0 [])] ∧ σ.mem (1, 9) = some [(.s (.int .i64 r_64.1)), (.l .own r_64.2.1.length (encL r_64.2.1)), (.l .own r_64.2.2.length (encL r_64.2.2))] ∧ NoBox [(1, 3), (1, 4), (1, 6), (1, 9)] σ.mem) r_64) := ⟨_, rfl⟩
      refine loopP ({ hd := [2, 3, 6, 9, 10], bx := [11, 12], ex := [2, 6, 9], rt := [6, 7, 8] }) I_14 X_15 h_65 (by exact rfl) ?_ ?_ ?_
      · rw [I_14_]
        refine ⟨?_, ?_, ?_, ?_, ?_, ?_, ?_, ?_, ?_, NoBox.restrict (by intro k hk hb; simp at hk hb; simp [hk, hb, h_4, h_8])⟩ <;> simp [restrict_env, restrict_mem, h_4, h_8]
      · intro s_12 σ_16 a_13 hI hp
        rw [I_14_] at hI
        obtain ⟨q_17, q_18, q_19, q_20, q_21, q_22, q_23, q_24, q_25, hn_26⟩ := hI
        try simp [h_4, h_8, q_17, q_18, q_19, q_20, q_21, q_22, q_23, q_24, q_25]
        rcases cond_cases hp with ⟨h_27, hp⟩ | ⟨h_27, hp⟩
        · try simp at h_27
          obtain ⟨e_28, h_29, hp⟩ := bind_some hp
          have b_30 := at_lo h_29
          have b_31 := at_hi h_29
          try simp at b_30
          try simp at b_31
          have c_32 := seg_at' h_29 0 1 (by decide) (ds := [.sc (.int .i64 e_28)]) rfl
          try simp at c_32
          obtain ⟨y_33, h_34, hp⟩ := bind_some hp
          have c_35 := C32_eq h_34
          simp at c_35
          try simp [h_4, h_8, q_17, q_18, q_19, q_20, q_21, q_22, q_23, q_24, q_25, h_27, b_30, b_31, c_32, c_35]
          rcases cond_cases hp with ⟨h_36, hp⟩ | ⟨h_36, hp⟩
          · try simp at h_36
            obtain ⟨e_37, h_38, hp⟩ := bind_some hp
            cases Option.some.inj (h_29.symm.trans h_38)
            have b_39 := at_lo h_29
            have b_40 := at_hi h_29
            try simp at b_39
            try simp at b_40
            have c_41 := seg_at' h_29 0 1 (by decide) (ds := [.sc (.int .i64 e_28)]) rfl
            try simp at c_41
            obtain ⟨e_42, h_43, hp⟩ := bind_some hp
            have b_44 := at_lo h_43
            have b_45 := at_hi h_43
            try simp at b_44
            try simp at b_45
            have c_46 := seg_at' h_43 0 1 (by decide) (ds := [.sc (.int .i64 e_42.from_)]) rfl
            try simp at c_46
            try simp [h_4, h_8, q_17, q_18, q_19, q_20, q_21, q_22, q_23, q_24, q_25, h_27, h_36, b_39, b_40, c_41, b_44, b_45, c_46]
            rcases cond_cases hp with ⟨h_47, hp⟩ | ⟨h_47, hp⟩
            · try simp at h_47
              cases hp
              try simp [h_4, h_8, q_17, q_18, q_19, q_20, q_21, q_22, q_23, q_24, q_25, h_27, h_36, h_47]
              refine goal_outR ?_
              rw [X_15_]
              refine ⟨_, rfl, ?_, ?_, ?_, ?_, ?_, ?_, ?_, NoBox.restrict (by intro k hk hb; simp at hk hb; simp [hk, hb, h_4, h_8, q_17, q_18, q_19, q_20, q_21, q_22, q_23, q_24, q_25, h_27, h_36, h_47, hn_26 k (by simp [hk, hb])])⟩ <;> simp [restrict_env, restrict_mem, h_4, h_8, q_17, q_18, q_19, q_20, q_21, q_22, q_23, q_24, q_25, h_27, h_36, h_47]
            · try simp at h_47
              obtain ⟨e_48, h_49, hp⟩ := bind_some hp
              cases Option.some.inj (h_29.symm.trans h_49)
              have b_50 := at_lo h_29
              have b_51 := at_hi h_29
              try simp at b_50
              try simp at b_51
              have c_52 := seg_at' h_29 0 1 (by decide) (ds := [.sc (.int .i64 e_28)]) rfl
              try simp at c_52
              obtain ⟨e_53, h_54, hp⟩ := bind_some hp
              cases Option.some.inj (h_43.symm.trans h_54)
              have b_55 := at_lo h_43
              have b_56 := at_hi h_43
              try simp at b_55
              try simp at b_56
              have c_57 := seg_at' h_43 0 5 (by decide) (ds := [.sc (.int .i64 e_42.from_), .sc (.int .i64 e_42.to_), .sc (.int .i64 e_42.stmt.kind), .sc (.string e_42.stmt.a), .sc (.string e_42.stmt.b)]) rfl
              try simp at c_57
              have n_58 := hn_26 (1, 11) (by simp)
              obtain ⟨y_59, h_60, hp⟩ := bind_some hp
              have c_61 := C33_eq h_60
              simp at c_61
              have n_62 := hn_26 (1, 12) (by simp)
              try simp [h_4, h_8, q_17, q_18, q_19, q_20, q_21, q_22, q_23, q_24, q_25, h_27, h_36, h_47, b_50, b_51, c_52, b_55, b_56, c_57, n_58, c_61, n_62]
              rcases cond_cases hp with ⟨h_63, hp⟩ | ⟨h_63, hp⟩
              · try simp at h_63
                cases hp
                try simp [h_4, h_8, q_17, q_18, q_19, q_20, q_21, q_22, q_23, q_24, q_25, h_27, h_36, h_47, h_63]
                refine goal_outR ?_
                rw [X_15_]
                refine ⟨_, rfl, ?_, ?_, ?_, ?_, ?_, ?_, ?_, NoBox.restrict (by intro k hk hb; simp at hk hb; simp [hk, hb, h_4, h_8, q_17, q_18, q_19, q_20, q_21, q_22, q_23, q_24, q_25, h_27, h_36, h_47, h_63, hn_26 k (by simp [hk, hb])])⟩ <;> simp [restrict_env, restrict_mem, h_4, h_8, q_17, q_18, q_19, q_20, q_21, q_22, q_23, q_24, q_25, h_27, h_36, h_47, h_63]
              · try simp at h_63
                cases hp
                try simp [h_4, h_8, q_17, q_18, q_19, q_20, q_21, q_22, q_23, q_24, q_25, h_27, h_36, h_47, h_63]
                refine goal_next ?_
                rw [I_14_]
                refine ⟨?_, ?_, ?_, ?_, ?_, ?_, ?_, ?_, ?_, NoBox.restrict (by intro k hk hb; simp at hk hb; simp [hk, hb, h_4, h_8, q_17, q_18, q_19, q_20, q_21, q_22, q_23, q_24, q_25, h_27, h_36, h_47, h_63, hn_26 k (by simp [hk, hb])])⟩ <;> simp [restrict_env, restrict_mem, h_4, h_8, q_17, q_18, q_19, q_20, q_21, q_22, q_23, q_24, q_25, h_27, h_36, h_47, h_63]
          · try simp at h_36
            cases hp
            try simp [h_4, h_8, q_17, q_18, q_19, q_20, q_21, q_22, q_23, q_24, q_25, h_27, h_36]
            refine goal_outR ?_
            rw [X_15_]
            refine ⟨_, rfl, ?_, ?_, ?_, ?_, ?_, ?_, ?_, NoBox.restrict (by intro k hk hb; simp at hk hb; simp [hk, hb, h_4, h_8, q_17, q_18, q_19, q_20, q_21, q_22, q_23, q_24, q_25, h_27, h_36, hn_26 k (by simp [hk, hb])])⟩ <;> simp [restrict_env, restrict_mem, h_4, h_8, q_17, q_18, q_19, q_20, q_21, q_22, q_23, q_24, q_25, h_27, h_36]
        · try simp at h_27
          cases hp
          try simp [h_4, h_8, q_17, q_18, q_19, q_20, q_21, q_22, q_23, q_24, q_25, h_27]
          refine goal_outX ?_
          rw [X_15_]
          refine ⟨_, rfl, ?_, ?_, ?_, ?_, ?_, ?_, ?_, NoBox.restrict (by intro k hk hb; simp at hk hb; simp [hk, hb, h_4, h_8, q_17, q_18, q_19, q_20, q_21, q_22, q_23, q_24, q_25, h_27, hn_26 k (by simp [hk, hb])])⟩ <;> simp [restrict_env, restrict_mem, h_4, h_8, q_17, q_18, q_19, q_20, q_21, q_22, q_23, q_24, q_25, h_27]
      · intro out hX
        rw [X_15_] at hX
        rcases r_64 with r_64 | r_64
        · simp only [Sum.elim_inl, Sum.elim_inr] at hX hp
          obtain ⟨σ_66, rfl, q_67, q_68, q_69, q_70, q_71, q_72, q_73, hn_74⟩ := hX
          cases hp
          simp [Goal, FnEnd, retR, rsrc, RSrc.val, nodupR, nodup, tupPart, h_4, h_8, q_67, q_68, q_69, q_70, q_71, q_72, q_73]
        · simp only [Sum.elim_inl, Sum.elim_inr] at hX hp
          obtain ⟨σ_75, rfl, q_76, q_77, q_78, q_79, q_80, q_81, q_82, hn_83⟩ := hX
          cases hp
          simp [Goal, FnEnd, retR, rsrc, RSrc.val, nodupR, nodup, tupPart, h_4, h_8, q_76, q_77, q_78, q_79, q_80, q_81, q_82]
    · try simp at h_8
      cases hp
      simp [Goal, FnEnd, retR, rsrc, RSrc.val, nodupR, nodup, tupPart, h_4, h_8]
  · try simp at h_4
    cases hp
    simp [Goal, FnEnd, retR, rsrc, RSrc.val, nodupR, nodup, tupPart, h_4]
theorem pc16 : PC Try.prog 16 C16 := pc_of (g := g16) (ctxOK_of [(29, C29), (30, C30), (31, C31), (32, C32), (33, C33)] rfl ⟨pc29, pc30, pc31, pc32, pc33, trivial⟩) ⟨Try.f16, Try.func16, by kernel_rfl, by kernel_rfl⟩ fun x y h => w16 h

noncomputable def C17 : List AV → Option AV := specP (X := Int × Unit) fun x => spec_IsError x.1
theorem C17_eq {code} {y} (h : spec_IsError code = some y) : C17 [av .shr code] = some (Res.res y) := specP_eq (X := Int × Unit) (F := fun x => spec_IsError x.1) (x := (code, ())) h
noncomputable def g17 : Cfg := { P := Try.prog, take := [], keep := [], gho := [], ctx := [(32, C32)] }
@[simp] theorem g17_P : g17.P = Try.prog := rfl
@[simp] theorem g17_t : g17.take = [] := rfl
@[simp] theorem g17_g : g17.gho = [] := rfl
@[simp] theorem g17_r : g17.ro = [] := rfl
@[simp] theorem g17_w : g17.away = [] ∧ g17.give = [] ∧ g17.octx = [] := by rw [g17]; exact ⟨rfl, rfl, rfl⟩
@[simp] theorem g17_32 : lookN 32 g17.ctx = some C32 := rfl
set_option maxHeartbeats 4000000 in
set_option maxRecDepth 100000 in
theorem w17 {code} {y} (hp : spec_IsError code = some y) : ∃ m, callo g17 0 17 [av .shr code] mem0 = some (Res.res y, m) := by
  refine start_fn (Try.f17.body.getD .skip) [.tmp 2] rfl rfl Try.func17 (by kernel_rfl) (by kernel_rfl) (by simp [Try.ntmps17]) rfl ?_
  unfold spec_IsError at hp
  obtain ⟨y_1, h_2, hp⟩ := bind_some hp
  have c_3 := C32_eq h_2
  simp at c_3
  cases hp
  simp [Try.f17, Goal, FnEnd, c_3]
theorem pc17 : PC Try.prog 17 C17 := pc_of (g := g17) (ctxOK_of [(32, C32)] rfl ⟨pc32, trivial⟩) ⟨Try.f17, Try.func17, by kernel_rfl, by kernel_rfl⟩ fun x y h => w17 h

noncomputable def C6 : List AV → Option AV := specP (X := TProgram × TFailure × Unit) fun x => spec_IsFailure x.1 x.2.1
theorem C6_eq {p_ f_} {y} (h : spec_IsFailure p_ f_ = some y) : C6 [av .shr p_, av .shr f_] = some (Res.res y) := specP_eq (X := TProgram × TFailure × Unit) (F := fun x => spec_IsFailure x.1 x.2.1) (x := (p_, f_, ())) h
noncomputable def g6 : Cfg := { P := Try.prog, take := [(6, 8)], keep := [], gho := [], ctx := [(16, C16), (17, C17)] }
@[simp] theorem g6_P : g6.P = Try.prog := rfl
@[simp] theorem g6_t : g6.take = [(6, 8)] := rfl
@[simp] theorem g6_g : g6.gho = [] := rfl
@[simp] theorem g6_r : g6.ro = [] := rfl
@[simp] theorem g6_w : g6.away = [] ∧ g6.give = [] ∧ g6.octx = [] := by rw [g6]; exact ⟨rfl, rfl, rfl⟩
@[simp] theorem g6_16 : lookN 16 g6.ctx = some C16 := rfl
@[simp] theorem g6_17 : lookN 17 g6.ctx = some C17 := rfl
set_option maxHeartbeats 4000000 in
set_option maxRecDepth 100000 in
theorem w6 {p_ f_} {y} (hp : spec_IsFailure p_ f_ = some y) : ∃ m, callo g6 0 6 [av .shr p_, av .shr f_] mem0 = some (Res.res y, m) := by
  refine start_fn (Try.f6.body.getD .skip) [.tmp 4] rfl rfl Try.func6 (by kernel_rfl) (by kernel_rfl) (by simp [Try.ntmps6]) rfl ?_
  unfold spec_IsFailure at hp
  obtain ⟨y_1, h_2, hp⟩ := bind_some hp
  have c_3 := C16_eq h_2
  simp at c_3
  simp [Try.f6, c_3]
  rcases cond_cases hp with ⟨h_4, hp⟩ | ⟨h_4, hp⟩
  · try simp at h_4
    try simp [h_4]
    rcases cond_cases hp with ⟨h_5, hp⟩ | ⟨h_5, hp⟩
    · try simp at h_5
      obtain ⟨y_6, h_7, hp⟩ := bind_some hp
      have c_8 := C17_eq h_7
      simp at c_8
      try simp [h_4, h_5, c_8]
      rcases cond_cases hp with ⟨h_9, hp⟩ | ⟨h_9, hp⟩
      · try simp at h_9
        cases hp
        simp [Goal, FnEnd, h_4, h_5, h_9]
      · try simp at h_9
        cases hp
        simp [Goal, FnEnd, h_4, h_5, h_9]
    · try simp at h_5
      cases hp
      simp [Goal, FnEnd, h_4, h_5]
  · try simp at h_4
    cases hp
    simp [Goal, FnEnd, h_4]
theorem pc6 : PC Try.prog 6 C6 := pc_of (g := g6) (ctxOK_of [(16, C16), (17, C17)] rfl ⟨pc16, pc17, trivial⟩) ⟨Try.f6, Try.func6, by kernel_rfl, by kernel_rfl⟩ fun x y h => w6 h

noncomputable def C38 : List AV → Option AV := specP (X := Int × Int × Int × Unit) fun x => impl_within x.1 x.2.1 x.2.2.1
theorem C38_eq {n_ low high} {y} (h : impl_within n_ low high = some y) : C38 [av .shr n_, av .shr low, av .shr high] = some (Res.res y) := specP_eq (X := Int × Int × Int × Unit) (F := fun x => impl_within x.1 x.2.1 x.2.2.1) (x := (n_, low, high, ())) h
noncomputable def g38 : Cfg := { P := Try.prog, take := [], keep := [], gho := [], ctx := [] }
@[simp] theorem g38_P : g38.P = Try.prog := rfl
@[simp] theorem g38_t : g38.take = [] := rfl
@[simp] theorem g38_g : g38.gho = [] := rfl
@[simp] theorem g38_r : g38.ro = [] := rfl
@[simp] theorem g38_w : g38.away = [] ∧ g38.give = [] ∧ g38.octx = [] := by rw [g38]; exact ⟨rfl, rfl, rfl⟩
set_option maxHeartbeats 4000000 in
set_option maxRecDepth 100000 in
theorem w38 {n_ low high} {y} (hp : impl_within n_ low high = some y) : ∃ m, callo g38 0 38 [av .shr n_, av .shr low, av .shr high] mem0 = some (Res.res y, m) := by
  refine start_fn (Try.f38.body.getD .skip) [.tmp 6] rfl rfl Try.func38 (by kernel_rfl) (by kernel_rfl) (by simp [Try.ntmps38]) rfl ?_
  unfold impl_within at hp
  simp [Try.f38]
  rcases cond_cases hp with ⟨h_1, hp⟩ | ⟨h_1, hp⟩
  · try simp at h_1
    cases hp
    simp [Goal, FnEnd, h_1]
  · try simp at h_1
    cases hp
    simp [Goal, FnEnd, h_1]
theorem pc38 : PC Try.prog 38 C38 := pc_of (g := g38) (ctxOK_of [] rfl trivial) ⟨Try.f38, Try.func38, by kernel_rfl, by kernel_rfl⟩ fun x y h => w38 h

noncomputable def C82 : List AV → Option AV := specP (X := ByteArray × Unit) fun x => impl_IsName x.1
theorem C82_eq {s} {y} (h : impl_IsName s = some y) : C82 [av .shr s] = some (Res.res y) := specP_eq (X := ByteArray × Unit) (F := fun x => impl_IsName x.1) (x := (s, ())) h
noncomputable def g82 : Cfg := { P := Try.prog, take := [], keep := [((82, 2), { hd := [0, 5, 6], bx := [], ex := [0], rt := [2] })], gho := [], ctx := [(38, C38)] }
@[simp] theorem g82_P : g82.P = Try.prog := rfl
@[simp] theorem g82_t : g82.take = [] := rfl
@[simp] theorem g82_g : g82.gho = [] := rfl
@[simp] theorem g82_r : g82.ro = [] := rfl
@[simp] theorem g82_w : g82.away = [] ∧ g82.give = [] ∧ g82.octx = [] := by rw [g82]; exact ⟨rfl, rfl, rfl⟩
@[simp] theorem g82_38 : lookN 38 g82.ctx = some C38 := rfl
set_option maxHeartbeats 4000000 in
set_option maxRecDepth 100000 in
theorem w82 {s} {y} (hp : impl_IsName s = some y) : ∃ m, callo g82 0 82 [av .shr s] mem0 = some (Res.res y, m) := by
  refine start_fn (Try.f82.body.getD .skip) [.tmp 2] rfl rfl Try.func82 (by kernel_rfl) (by kernel_rfl) (by simp [Try.ntmps82]) rfl ?_
  unfold impl_IsName at hp
  simp [Try.f82]
  obtain ⟨r_17, h_18, hp⟩ := bind_some hp
  obtain ⟨I_3, I_3_⟩ : ∃ I : Int → St → Prop, I = (fun (s_1 : Int) (σ : St) => σ.env 0 = .one (.s (.string s)) ∧ σ.env 5 = .one (.s (.int .i64 (s.size : Int))) ∧ σ.env 6 = .one (.s (.int .i64 s_1)) ∧ σ.mem = mem0) := ⟨_, rfl⟩
  obtain ⟨X_4, X_4_⟩ : ∃ X : ((Unit) ⊕ (Unit)) → Out → Prop, X = (fun (r_17 : (Unit) ⊕ (Unit)) (out : Out) => Sum.elim (fun r_17 => ∃ σ : St, out = .ret σ ∧ σ.env 2 = .one (.s (.bool false)) ∧ σ.mem = mem0) (fun r_17 => ∃ σ : St, out = .exit 0 σ ∧ σ.env 0 = .one (.s (.string s)) ∧ σ.mem = mem0) r_17) := ⟨_, rfl⟩
  refine loopP ({ hd := [0, 5, 6], bx := [], ex := [0], rt := [2] }) I_3 X_4 h_18 (by exact rfl) ?_ ?_ ?_
  · rw [I_3_]
    refine ⟨?_, ?_, ?_, ?_⟩ <;> simp [restrict_env, restrict_mem]
  · intro s_1 σ_5 a_2 hI hp
    rw [I_3_] at hI
    obtain ⟨q_6, q_7, q_8, q_9⟩ := hI
    try simp [q_6, q_7, q_8, q_9]
    rcases cond_cases hp with ⟨h_10, hp⟩ | ⟨h_10, hp⟩
    · try simp at h_10
      obtain ⟨e_11, h_12, hp⟩ := bind_some hp
      have c_13 := idx_str Try.underlying9 h_12
      try simp [q_6, q_7, q_8, q_9, h_10, c_13]
      rcases cond_cases hp with ⟨h_14, hp⟩ | ⟨h_14, hp⟩
      · try simp at h_14
        cases hp
        try simp [q_6, q_7, q_8, q_9, h_10, h_14]
        refine goal_outR ?_
        rw [X_4_]
        refine ⟨_, rfl, ?_, ?_⟩ <;> simp [restrict_env, restrict_mem, q_6, q_7, q_8, q_9, h_10, h_14]
      · try simp at h_14
        obtain ⟨_, h_15, hp⟩ := bind_some hp
        cases Option.some.inj (h_12.symm.trans h_15)
        try simp [q_6, q_7, q_8, q_9, h_10, h_14, c_13]
        rcases cond_cases hp with ⟨h_16, hp⟩ | ⟨h_16, hp⟩
        · try simp at h_16
          cases hp
          try simp [q_6, q_7, q_8, q_9, h_10, h_14, h_16]
          refine goal_outR ?_
          rw [X_4_]
          refine ⟨_, rfl, ?_, ?_⟩ <;> simp [restrict_env, restrict_mem, q_6, q_7, q_8, q_9, h_10, h_14, h_16]
        · try simp at h_16
          cases hp
          try simp [q_6, q_7, q_8, q_9, h_10, h_14, h_16]
          refine goal_next ?_
          rw [I_3_]
          refine ⟨?_, ?_, ?_, ?_⟩ <;> simp [restrict_env, restrict_mem, q_6, q_7, q_8, q_9, h_10, h_14, h_16]
    · try simp at h_10
      cases hp
      try simp [q_6, q_7, q_8, q_9, h_10]
      refine goal_outX ?_
      rw [X_4_]
      refine ⟨_, rfl, ?_, ?_⟩ <;> simp [restrict_env, restrict_mem, q_6, q_7, q_8, q_9, h_10]
  · intro out hX
    rw [X_4_] at hX
    rcases r_17 with r_17 | r_17
    · simp only [Sum.elim_inl, Sum.elim_inr] at hX hp
      obtain ⟨σ_19, rfl, q_20, q_21⟩ := hX
      cases hp
      simp [Goal, FnEnd, q_20, q_21]
    · simp only [Sum.elim_inl, Sum.elim_inr] at hX hp
      obtain ⟨σ_22, rfl, q_23, q_24⟩ := hX
      obtain ⟨y_25, h_26, hp⟩ := bind_some hp
      have c_27 := C38_eq h_26
      simp at c_27
      cases hp
      simp [Goal, FnEnd, q_23, q_24, c_27]
theorem pc82 : PC Try.prog 82 C82 := pc_of (g := g82) (ctxOK_of [(38, C38)] rfl ⟨pc38, trivial⟩) ⟨Try.f82, Try.func82, by kernel_rfl, by kernel_rfl⟩ fun x y h => w82 h
end Go.Proofs

