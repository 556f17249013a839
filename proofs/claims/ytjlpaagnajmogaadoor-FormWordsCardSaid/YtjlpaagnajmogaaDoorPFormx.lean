-- Made by a program (wip/pp/pp.py, over the kit's print.py) for this claim. Lean checks it.
import Derived.Test.YtjlpaagnajmogaaDoorPFormx0
import Derived.Test.YtjlpaagnajmogaaDoorPFormx1
import Derived.Test.YtjlpaagnajmogaaDoorPFormx2
import Derived.Test.YtjlpaagnajmogaaDoorPFormx3
import Derived.Test.YtjlpaagnajmogaaDoorPFormx4
import Derived.Test.YtjlpaagnajmogaaDoorPFormx5
import Derived.Test.YtjlpaagnajmogaaDoorPFormx6
import Derived.Test.YtjlpaagnajmogaaDoorPFormx7
import Derived.Test.YtjlpaagnajmogaaDoorPFormx8
import Derived.Test.YtjlpaagnajmogaaDoorPFormx9
import Derived.Test.YtjlpaagnajmogaaDoorPFormx10
import Derived.Test.YtjlpaagnajmogaaDoorPFormx11
import Derived.Test.YtjlpaagnajmogaaDoorPFormx12
import Derived.Test.YtjlpaagnajmogaaDoorPFormx13
namespace Go.Proofs.YtjlpaagnajmogaaDoor.PForm
open Go.RowKit Go.Proofs.YtjlpaagnajmogaaDoorW.PrintWords Go.Proofs.YtjlpaagnajmogaaDoorW.PrintLast Go.Proofs.YtjlpaagnajmogaaDoorW.PrintMore
attribute [local go_sem] max2_int min2_int max_two min_two max_three min_three max_four min_four   -- for this text's walks alone
set_option linter.unusedVariables false
set_option linter.unusedSimpArgs false

end Go.Proofs.YtjlpaagnajmogaaDoor.PForm
