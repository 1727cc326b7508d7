/- The hand-made contracts of the first level. -/
import Derived.Test.YtihaeeldgimdiaaDoorUiH1a
import Derived.Test.YtihaeeldgimdiaaDoorUiH1b
import Derived.Test.YtihaeeldgimdiaaDoorUiH1c

